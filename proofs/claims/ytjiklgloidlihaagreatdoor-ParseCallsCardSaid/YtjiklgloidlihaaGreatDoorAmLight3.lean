/- Conversions, slices, indexes, maps, lengths; all the light operations together. -/
import Derived.Test.YtjiklgloidlihaaGreatDoorAmLight2
import Derived.Laws.BytesString
namespace Go.Am
open Go
section
variable {P : Program} {C : Ctx} {N : Nat} {μ : Mu} {H : AHeap} {w : World}
variable {e : Env} {ρ : Operand → Value} {dst : Option Tmp} {type : TypeId} {pos : String} {after : Array Edge} {guard : Option (Nat × Bool)} {v : AVal}

theorem byteOfA_some {a : AVal} {n : Nat} (h : byteOfA a = some n) : a = .int .u8 (n : Int) ∧ n < 256 := by
  unfold byteOfA at h
  simp only [ob_some, asIntK_some, guardO_some, kEq_eq, natOf_some, blts] at h
  obtain ⟨p, rfl, hk, m, hm, hlt, h⟩ := h
  cases h
  rw [hk, hm]; exact ⟨rfl, hlt⟩
theorem bytes_foldl (l : List Nat) : ∀ s : ByteArray, (∀ n ∈ l, n < 256) → bytesN ((l.map fun n : Nat => (n : Int)).foldl (fun r n => r.push (UInt8.ofNat n.toNat)) s) = bytesN s ++ l := by
  induction l with
  | nil => intro s _; simp
  | cons n l ih =>
    intro s h
    rw [List.map_cons, List.foldl_cons, ih _ fun m hm => h m (by simp [hm])]
    have : bytesN (s.push (UInt8.ofNat (n : Int).toNat)) = bytesN s ++ [n] := by
      have hn := h n (by simp)
      simp [bytesN, Nat.mod_eq_of_lt hn]
    rw [this]; simp
theorem bytes_list {μ : Mu} : ∀ {l : List AVal} {r : List Nat} {vs : List Value}, lmapM byteOfA l = some r → LRel μ l vs → vs = r.map (fun n : Nat => Value.int .u8 (n : Int)) ∧ ∀ n ∈ r, n < 256 := by
  intro l
  induction l with
  | nil => intro r vs h k; rw [lmapM_nil] at h; cases h; rw [LRel] at k; subst k; exact ⟨rfl, by simp⟩
  | cons a l ih =>
    intro r vs h k
    rw [lmapM_cons, ob_some] at h
    obtain ⟨n, hn, h⟩ := h
    rw [ob_some] at h
    obtain ⟨r', hr, h⟩ := h
    cases h
    rw [LRel] at k
    obtain ⟨v, m, rfl, h1, h2⟩ := k
    obtain ⟨rfl, hlt⟩ := byteOfA_some hn
    rw [VRel] at h1
    obtain ⟨h3, h4⟩ := ih hr h2
    subst h1 h3
    exact ⟨rfl, fun m hm => (List.mem_cons.1 hm).elim (fun e => e ▸ hlt) (h4 m)⟩
theorem convBytes_ok (hH : HRel N μ H w) {a : AVal} {x : Value} (hx : VRel μ a x) (h : convBytes H a = some v) : ∃ v', (Conv.bytesToString x).run P w = .ok v' w ∧ VRel μ v v' ∧ ∃ A l c, x = .slice A l c := by
  unfold convBytes at h
  split at h
  · rename_i s hs
    rw [asSlice_some] at hs
    subst hs
    simp only [ob_some] at h
    obtain ⟨c, hc, l, hl, r, hr, h⟩ := h
    cases h
    rw [VRel] at hx
    obtain ⟨i, cap', hi, rfl, _⟩ := hx
    obtain ⟨vs, _, h2, h3, _⟩ := hH.manyAt (P := P) hc hi hl
    obtain ⟨h4, h5⟩ := bytes_list hr h2
    refine ⟨_, run_bytesToString w _ _ _ (r.map fun n : Nat => (n : Int)) (by rw [h3, h4]; simp), ?_, _, _, _, rfl⟩
    rw [VRel]
    exact ⟨_, rfl, by rw [bytes_foldl _ _ h5]; simp [bytesN]⟩
  · simp only [guardO_some, beqs] at h
    obtain ⟨h1, h⟩ := h
    cases h
    rw [tag_eq.2.1] at h1
    subst h1
    rw [VRel] at hx
    subst hx
    exact ⟨.string .empty, rfl, by rw [VRel]; exact ⟨_, rfl, rfl⟩, _, _, _, rfl⟩
theorem convA_ok (hT : TysOk P C) (hH : HRel N μ H w) {s d : Nat} {sty dty : ATy} (hs : C.tys.get s = some sty) (hd : C.tys.get d = some dty) {a : AVal} {x : Value} (hx : VRel μ a x) (h : convA C sty dty a H = some v) :
    ∃ v', (convert s d x).run P w = .ok v' w ∧ VRel μ v v' := by
  have hS := hT.facts hs
  have hD := hT.facts hd
  obtain ⟨su, hsu⟩ := hS.und
  unfold convA at h
  split at h
  · rename_i k hk
    simp only [ob_some, asInt_some] at h
    obtain ⟨n, ⟨k', rfl⟩, h⟩ := h
    cases h
    rw [VRel] at hx
    subst hx
    refine ⟨.int k (k.wrap n), ?_, by rw [VRel, wrapF_eq]⟩
    simp only [convert, Sem.run_bind, run_und hsu, run_und (desc_int hD hk), Result.andThen_ok]
    rfl
  · simp only [guardO_some] at h
    obtain ⟨hstr, h⟩ := h
    rw [cond_if] at h
    split at h
    · rename_i ht
      cases h
      cases v <;> simp [AVal.tag, Nat.beq] at ht
      have hx' := hx
      rw [VRel] at hx
      obtain ⟨str, rfl, _⟩ := hx
      refine ⟨.string str, ?_, hx'⟩
      simp only [convert, Sem.run_bind, run_und hsu, run_und (desc_string hD hstr), Result.andThen_ok]
      cases su <;> rfl
    · simp only [ob_some, guardO_some, kEq_eq] at h
      obtain ⟨el, hel, et, het, k, hk, rfl, h⟩ := h
      obtain ⟨v', h1, h2, A, l, c, rfl⟩ := convBytes_ok (P := P) hH hx h
      exact ⟨v', by rw [run_convert_bytes_string w s d el A l c (desc_slice hS hel) (desc_int (hT.facts het) hk) (desc_string hD hstr)]; exact h1, h2⟩
theorem lConv_ok (hT : TysOk P C) (hH : HRel N μ H w) (hE : ERel μ e ρ) {s d : Nat} {x : Operand} (h : lConv s d x C e H = some v) : LOk P μ w ρ ⟨dst, .convert s d x, type, pos, after, guard⟩ v := by
  unfold lConv at h
  simp only [ob_some] at h
  obtain ⟨a, ha, sty, hs, dty, hd, h⟩ := h
  obtain ⟨v', h1, h2⟩ := convA_ok hT hH hs hd (hE _ _ ha) h
  exact ⟨v', by simp only [execOp, Sem.run_bind, h1, Result.andThen_ok, Sem.run_pure], h2⟩

/- slices -/
theorem boundA_some {y : Nat} {a : AVal} {n : Nat} (h : boundA y a = some n) : (∃ k, a = .int k (n : Int)) ∧ n ≤ y := by
  unfold boundA at h
  simp only [ob_some, asNat_some, guardO_some, bles] at h
  obtain ⟨m, ⟨k, rfl⟩, hle, h⟩ := h
  cases h
  exact ⟨⟨k, rfl⟩, hle⟩
theorem sliceBound_ok {y y' : Nat} {a : AVal} {x : Value} (hx : VRel μ a x) {n : Nat} (h : boundA y a = some n) (hy : y ≤ y') (code : BoundsCode) : (Instr.sliceBound x y' code).run P w = .ok n w := by
  obtain ⟨⟨k, rfl⟩, hle⟩ := boundA_some h
  rw [VRel] at hx
  subst hx
  have h1 : (0 : Int) ≤ n ∧ (n : Int) ≤ y' := ⟨by omega, by omega⟩
  simp only [Instr.sliceBound, asIntOf, Sem.run_bind, Sem.run_pure, Result.andThen_ok, Sem.run_ite, if_pos h1]
  simp
theorem sliceBounds_ok {isSlice : Bool} {len cap cap' : Nat} (hc : cap ≤ cap') {lo hi : Option AVal} {lo' hi' : Option Value}
    (h1 : OptRel μ lo lo') (h2 : OptRel μ hi hi')
    {p : Nat × Nat} (h : boundsA len cap lo hi = some p) : (Instr.sliceBounds isSlice len cap' lo' hi' none).run P w = .ok (p.1, p.2, cap') w ∧ p.1 ≤ p.2 ∧ (p.2 ≤ cap ∨ p.2 = len) := by
  unfold boundsA at h
  simp only [ob_some] at h
  obtain ⟨hb, hhi, l, hlo, h⟩ := h
  cases h
  have hH : hb ≤ cap ∨ hb = len := by
    cases hi with
    | none => right; cases hhi; rfl
    | some a => left; exact (boundA_some hhi).2
  have hL : l ≤ hb := by
    cases lo with
    | none => cases hlo; omega
    | some a => exact (boundA_some hlo).2
  refine ⟨?_, hL, hH⟩
  unfold Instr.sliceBounds
  cases hi with
  | none =>
    cases hi' with
    | some v => exact h2.elim
    | none =>
      cases hhi
      cases lo with
      | none =>
        cases lo' with
        | some v => exact h1.elim
        | none => cases hlo; simp
      | some a =>
        cases lo' with
        | none => exact h1.elim
        | some v => simp [sliceBound_ok (P := P) (w := w) h1 hlo (Nat.le_refl _)]
  | some b =>
    cases hi' with
    | none => exact h2.elim
    | some u =>
      cases lo with
      | none =>
        cases lo' with
        | some v => exact h1.elim
        | none => cases hlo; simp [sliceBound_ok (P := P) (w := w) h2 hhi hc]
      | some a =>
        cases lo' with
        | none => exact h1.elim
        | some v => simp [sliceBound_ok (P := P) (w := w) h2 hhi hc, sliceBound_ok (P := P) (w := w) h1 hlo (Nat.le_refl _)]

theorem sliceFits_some {b size cap l : Nat} {arr : Bool} (hH : HRel N μ H w) {i : BI} (hi : μ b = some i) (h : sliceFits H b size cap l arr = true) :
    i.tight = true ∨ (i.tight = false ∧ arr = false ∧ i.es = size ∧ (cap ≠ l ∨ l = 0)) := by
  unfold sliceFits at h
  split at h
  · rename_i c hc
    obtain ⟨i', o, h1, h2, h3⟩ := hH.blk _ _ (blkCells_some hc)
    rw [hi] at h1; cases h1
    obtain ⟨cs, elem, fr, _, _, _, _, h4⟩ := h3
    split at h
    · rename_i hn; rw [hn] at h4; exact .inl h4
    · rename_i es hes
      rw [hes] at h4
      simp only [Bool.and_eq_true, Bool.or_eq_true, Bool.not_eq_true', beqs, beqf] at h
      exact .inr ⟨h4.1, h.1.1, h4.2.1.trans h.1.2, h.2⟩
  · cases h
theorem boundsA_le {len cap : Nat} {lo hi : Option AVal} {p : Nat × Nat} (h : boundsA len cap lo hi = some p) : p.1 ≤ p.2 := by
  unfold boundsA at h
  simp only [ob_some] at h
  obtain ⟨hb, hhi, l, hlo, h⟩ := h
  cases h
  cases lo with
  | none => cases hlo; exact Nat.zero_le _
  | some a => exact (boundA_some hlo).2
theorem sliceRow_ok (hT : TysOk P C) (hH : HRel N μ H w) {arr : Bool} {el b off len cap cap' : Nat} {lo hi : Option AVal} {i : BI} (hi' : μ b = some i)
    (hcap : cap ≤ cap') (ht : i.tight = true → cap' = cap) (hr : i.tight = false → arr = false → off + cap' * i.es ≤ i.room) (h : sliceRow C H arr el b off len cap lo hi = some v) :
    ∃ p size, boundsA len cap lo hi = some p ∧ (sizeOf el).run P w = .ok size w ∧
      VRel μ v (.slice (some (if cap' = p.1 then ⟨i.b, off, none⟩ else Addr.add ⟨i.b, off, none⟩ (p.1 * size))) (p.2 - p.1) (cap' - p.1)) := by
  unfold sliceRow at h
  simp only [ob_some, guardO_some, Bool.and_eq_true, bles] at h
  obtain ⟨et, het, p, hp, ⟨hle, hf⟩, h⟩ := h
  cases h
  have hle' := boundsA_le hp
  refine ⟨p, et.size, hp, (hT.facts het).size, ?_⟩
  rw [VRel]
  have hoff : (if cap' = p.1 then (⟨i.b, off, none⟩ : Addr) else Addr.add ⟨i.b, off, none⟩ (p.1 * et.size)) = ⟨i.b, (bif Nat.beq cap p.1 then off else off + p.1 * et.size), none⟩ := by
    rw [add_eq, cond_if]
    simp only [beqs]
    rcases sliceFits_some hH hi' hf with h1 | ⟨_, _, _, h1⟩
    · rw [ht h1]; split <;> rfl
    · by_cases hc : cap = p.1
      · have h2 : p.1 = 0 := h1.resolve_left fun k => k hc
        rw [if_pos hc, h2]; split <;> simp
      · rw [if_neg hc, if_neg (by omega)]
  refine ⟨i, cap' - p.1, hi', by rw [hoff], by omega, fun h1 => by rw [ht h1], fun h1 => ?_⟩
  rcases sliceFits_some hH hi' hf with h2 | ⟨_, h3, h4, h5⟩
  · rw [h1] at h2; cases h2
  · have h6 := hr h1 h3
    rw [cond_if]
    simp only [beqs]
    rw [h4] at h6 ⊢
    have h8 : p.1 * et.size + (cap' - p.1) * et.size = cap' * et.size := by rw [← Nat.add_mul]; congr 1; omega
    split
    · omega
    · omega
theorem lSlice_ok (hT : TysOk P C) (hH : HRel N μ H w) (hE : ERel μ e ρ) {t : Nat} {x : Operand} {lo hi mx : Option Operand} (h : (lSliceOf t x lo hi mx).f C e H = some v) :
    LOk P μ w ρ ⟨dst, .slice t x lo hi mx, type, pos, after, guard⟩ v := by
  unfold lSliceOf at h
  split at h
  · simp only [lSlice, ob_some] at h
    obtain ⟨a, ha, l, hl, u, hu, ty, hty, h⟩ := h
    have hx := hE _ _ ha
    have h1 := hE.opt hl
    have h2 := hE.opt hu
    have hF := hT.facts hty
    have run : ∀ {v'}, (Instr.sliceAt t (ρ x) (lo.map ρ) (hi.map ρ) none).run P w = .ok v' w → (execOp ρ ⟨dst, .slice t x lo hi none, type, pos, after, guard⟩).run P w = .ok (.value v') w := by
      intro v' hr
      simp only [execOp, Option.map_none, Sem.run_bind, hr, Result.andThen_ok, Sem.run_pure]
    unfold sliceA at h
    split at h
    · rename_i s hs
      rw [asStr_some] at hs
      subst hs
      rw [guardO_some] at h
      obtain ⟨hstr, h⟩ := h
      unfold sliceStr at h
      simp only [ob_some, llen_eq, ldrop_eq, ltake_eq] at h
      obtain ⟨p, hp, h⟩ := h
      cases h
      rw [VRel] at hx
      obtain ⟨str, hxv, rfl⟩ := hx
      rw [bytesN_length] at hp
      obtain ⟨h3, _⟩ := sliceBounds_ok (P := P) (w := w) (isSlice := false) (Nat.le_refl _) h1 h2 hp
      refine ⟨.string (str.extract p.1 p.2), run ?_, by rw [VRel]; exact ⟨_, rfl, bytesN_extract _ _ _⟩⟩
      have hu' := desc_string hF hstr
      simp only [Instr.sliceAt, Sem.run_bind, run_und hu', Result.andThen_ok, Instr.slice, hxv]
      simp [h3]
    · split at h
      · rename_i r hr
        rw [asSlice_some] at hr
        subst hr
        simp only [ob_some] at h
        obtain ⟨el, hel, h⟩ := h
        rw [VRel] at hx
        obtain ⟨i, cap', hi', hxv, hc, ht, hrm⟩ := hx
        obtain ⟨p, size, hp, h4, h5⟩ := sliceRow_ok (P := P) (w := w) hT hH hi' hc ht (fun a _ => hrm a) h
        obtain ⟨h3, _⟩ := sliceBounds_ok (P := P) (w := w) (isSlice := true) hc h1 h2 hp
        refine ⟨_, run ?_, h5⟩
        have hu' := desc_slice hF hel
        simp only [Instr.sliceAt, Sem.run_bind, run_und hu', Result.andThen_ok, Instr.slice, hxv, h3, Sem.run_pure, h4]
        congr 2
        split <;> rfl
      · split at h
        · rename_i q hq
          rw [asPtr_some] at hq
          subst hq
          simp only [ob_some] at h
          obtain ⟨ar, har, h⟩ := h
          rw [VRel] at hx
          obtain ⟨i, hi', hxv⟩ := hx
          obtain ⟨p, size, hp, h4, h5⟩ := sliceRow_ok (P := P) (w := w) hT hH hi' (Nat.le_refl _) (fun _ => rfl) (fun _ h => by cases h) h
          obtain ⟨h3, _⟩ := sliceBounds_ok (P := P) (w := w) (isSlice := false) (Nat.le_refl _) h1 h2 hp
          refine ⟨_, run ?_, h5⟩
          have hu' := desc_arr hF har
          simp only [Instr.sliceAt, Sem.run_bind, run_und hu', Result.andThen_ok, hxv, Instr.sureAddr, h3, Sem.run_pure, h4]
        · simp only [guardO_some, beqs, ob_some] at h
          obtain ⟨htag, el, hel, ety, hety, p, hp, h⟩ := h
          cases h
          rw [tag_eq.2.1] at htag
          subst htag
          rw [VRel] at hx
          obtain ⟨h3, h6, h7⟩ := sliceBounds_ok (P := P) (w := w) (isSlice := true) (Nat.le_refl 0) h1 h2 hp
          have hp2 : p.2 = 0 := by omega
          have hp1 : p.1 = 0 := by omega
          rw [hp1, hp2] at h3
          refine ⟨.slice none 0 0, run ?_, by rw [VRel]⟩
          have hu' := desc_slice hF hel
          simp only [Instr.sliceAt, Sem.run_bind, run_und hu', Result.andThen_ok, Instr.slice, hx, h3, Sem.run_pure, (hT.facts hety).size]
          simp
  · cases h
end
end Go.Am
