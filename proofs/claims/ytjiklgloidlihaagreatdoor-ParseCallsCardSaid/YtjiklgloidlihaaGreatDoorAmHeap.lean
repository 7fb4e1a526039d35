/- New blocks, stores: how the relation is carried. -/
import Derived.Test.YtjiklgloidlihaaGreatDoorAmLight4
import Derived.Below
namespace Go.Am
open Go Go.RowKit

def Mu.ext (μ : Mu) (a : Nat) (i : BI) : Mu := fun b => if b = a then some i else μ b
theorem Mu.ext_le {μ : Mu} {a : Nat} {i : BI} (h : μ a = none) : μ.le (μ.ext a i) := by
  intro b j hj
  unfold Mu.ext
  split
  · rename_i e; subst e; rw [h] at hj; cases hj
  · exact hj
theorem Mu.ext_same {μ : Mu} {a : Nat} {i : BI} : μ.ext a i a = some i := by simp [Mu.ext]
theorem TmRel.mono {μ ν : Mu} (h : μ.le ν) {n : Nat} {tm : Tm} {tmps : Array Value} (k : TmRel μ n tm tmps) : TmRel ν n tm tmps := ⟨k.1, fun i v hv => (k.2 i v hv).mono h _ _⟩
theorem LoopRel.mono {μ ν : Mu} (h : μ.le ν) {l : ALoop} {r : Loop} (k : LoopRel μ l r) : LoopRel ν l r :=
  ⟨k.state, k.pending, k.fn, k.tm.mono h, k.params, k.assign, k.body, by obtain ⟨i, h1, h2⟩ := k.defers; exact ⟨i, h _ _ h1, h2⟩⟩
theorem All2.mono {α β : Type} {R S : α → β → Prop} (h : ∀ a b, R a b → S a b) {l : List α} {m : List β} (k : All2 R l m) : All2 S l m := by
  induction k with
  | nil => exact .nil
  | cons a _ ih => exact .cons (h _ _ a) ih
theorem ADefRel.mono {μ ν : Mu} (h : μ.le ν) {d : ADef} {e : Deferred} (k : ADefRel μ d e) : ADefRel ν d e := by
  refine ⟨?_⟩
  have := k.rel
  revert this
  cases d.fn with
  | none => rintro ⟨i, h1, h2⟩; exact ⟨i, h _ _ h1, h2⟩
  | some f => rintro ⟨fn, cap, as, h1, h2, h3⟩; exact ⟨fn, cap, as, h1, h2.mono h, LRel.mono h _ _ h3⟩
theorem BRel.mono {μ ν : Mu} (h : μ.le ν) {i : BI} {x : ABlk} {o : Obj} (k : BRel μ i x o) : BRel ν i x o := by
  cases x with
  | cells c n loose =>
    obtain ⟨cs, elem, fr, h1, h2, h3, h4, h5⟩ := k
    refine ⟨cs, elem, fr, h1, h2, h3, fun j v hv => ?_, h5⟩
    obtain ⟨a, v', c, d⟩ := h4 j v hv
    exact ⟨a, v', c, d.mono h _ _⟩
  | map l => obtain ⟨es, clock, h1, h2⟩ := k; exact ⟨es, clock, h1, h2.mono fun a b r => ⟨r.1.mono h _ _, r.2.mono h _ _⟩⟩
  | loop l => obtain ⟨r, h1, h2⟩ := k; exact ⟨r, h1, h2.mono h⟩
  | deferred l =>
    obtain ⟨l', h1, h2⟩ := k
    refine ⟨l', h1, ?_⟩
    revert h2
    cases l <;> cases l' <;> intro h2 <;> first | trivial | exact h2.elim | exact All2.mono (fun a b r => ADefRel.mono h r) h2
  | siter s p => exact k

section
variable {P : Program} {C : Ctx} {N : Nat} {μ : Mu} {H : AHeap} {w : World}

theorem HRel.lt (hH : HRel N μ H w) {a : Nat} {i : BI} (h : μ a = some i) : a < H.next := by
  refine Nat.lt_of_not_le fun hle => ?_
  rw [(hH.fresh a hle).1] at h; cases h
theorem HRel.newBlk (hH : HRel N μ H w) {x : ABlk} {o : Obj} {i : BI} (hib : i.b = w.heap.size) (hx : BRel (μ.ext H.next i) i x o) : HRel N (μ.ext H.next i) (newBlk H x) (w.alloc o) := by
  have hle : μ.le (μ.ext H.next i) := Mu.ext_le (hH.fresh _ (Nat.le_refl _)).1
  have hget : ∀ a, (Am.newBlk H x).t.get a = if a = H.next then some x else H.t.get a := fun a => Tr.get_set _ _ _ _
  refine ⟨?_, ?_, ?_, ?_, ?_, ?_, ?_, ?_⟩
  · intro g hg; unfold Mu.ext; rw [if_neg (by have := hH.next; omega)]; exact hH.glob g hg
  · intro a y ha hy; rw [hget, if_neg (by have := hH.next; omega)] at hy; exact hH.low a y ha hy
  · have := hH.next; show 256 ≤ H.next + 1; omega
  · have := hH.size; simp; omega
  · intro a ha
    have ha' : H.next + 1 ≤ a := ha
    rw [hget, if_neg (by omega)]
    unfold Mu.ext; rw [if_neg (by omega)]
    exact hH.fresh a (by omega)
  · intro a y hy
    rw [hget] at hy
    split at hy
    · rename_i e; subst e; cases hy
      refine ⟨i, o, Mu.ext_same, ?_, hx⟩
      rw [hib]; show (w.heap.push o)[w.heap.size]? = some o; simp
    · rename_i hne
      obtain ⟨j, q, h1, h2, h3⟩ := hH.blk a y hy
      refine ⟨j, q, hle _ _ h1, ?_, h3.mono hle⟩
      rw [Below.heap_alloc]; exact h2
      exact (Array.getElem?_eq_some_iff.1 h2).1
  · intro a j ha hj
    unfold Mu.ext at hj
    split at hj
    · cases hj; rw [hib]; exact ⟨hH.size, by simp⟩
    · have := hH.own a j ha hj; exact ⟨this.1, by simp; omega⟩
  · intro a b y z j k hy hz hj hk ha hb hjk
    rw [hget] at hy hz
    unfold Mu.ext at hj hk
    by_cases ea : a = H.next
    · by_cases eb : b = H.next
      · rw [ea, eb]
      · exfalso
        rw [if_pos ea] at hj; rw [if_neg eb] at hk
        cases hj
        have := (hH.own b k hb hk).2; omega
    · by_cases eb : b = H.next
      · exfalso
        rw [if_neg ea] at hj; rw [if_pos eb] at hk
        cases hk
        have := (hH.own a j ha hj).2; omega
      · rw [if_neg ea] at hy hj; rw [if_neg eb] at hz hk
        exact hH.inj a b y z j k hy hz hj hk ha hb hjk
theorem HRel.drew (hH : HRel N μ H w) : HRel N μ H w.drew := ⟨hH.glob, hH.low, hH.next, hH.size, hH.fresh, hH.blk, hH.own, hH.inj⟩

def World.setBlk (w : World) (g : Nat) (o : Obj) : World := { w with heap := w.heap.setIfInBounds g o }
theorem setBlk_setBlk (w : World) (g : Nat) (a b : Obj) : World.setBlk (World.setBlk w g a) g b = World.setBlk w g b := by
  unfold World.setBlk; simp
theorem setBlk_get (w : World) (g k : Nat) (o : Obj) : (World.setBlk w g o).heap[k]? = if k = g ∧ g < w.heap.size then some o else w.heap[k]? := by
  unfold World.setBlk
  simp only [Array.getElem?_setIfInBounds]
  by_cases h : g = k
  · subst h
    by_cases h2 : g < w.heap.size
    · simp [h2]
    · rw [if_pos rfl, if_neg h2, if_neg (fun h => h2 h.2)]; exact (Array.getElem?_eq_none (by omega)).symm
  · rw [if_neg h, if_neg (fun e => h e.1.symm)]
theorem setCell_setBlk {g j : Nat} {cur : Array Value} {t : TypeId} {fz : Nat × Nat} {v : Value} (h : w.heap[g]? = some (.cells cur t fz)) : w.setCell ⟨g, j, none⟩ v = World.setBlk w g (.cells (cur.setIfInBounds j v) t fz) := by
  unfold World.setCell World.setBlk
  congr 1
  apply Array.ext_getElem?
  intro k
  rw [Array.getElem?_modify, Array.getElem?_setIfInBounds]
  by_cases e : g = k
  · subst e
    have hg := (Array.getElem?_eq_some_iff.1 h).1
    rw [if_pos rfl, if_pos rfl, if_pos hg, h]; rfl
  · rw [if_neg e, if_neg e]
theorem run_storeCells_mid {g o : Nat} {t : TypeId} {fz : Nat × Nat} : ∀ (vs : List Value) (i : Nat) (cur : Array Value) (w : World), w.heap[g]? = some (.cells cur t fz) → (fz.2 ≤ fz.1 ∨ cur.size ≤ fz.1) →
    o + i + vs.length ≤ cur.size → (∀ v ∈ vs, v.oneCell' = true) →
    ∃ cur', cur'.size = cur.size ∧ (∀ j : Nat, cur'[j]? = if o + i ≤ j ∧ j < o + i + vs.length then vs[j - (o + i)]? else cur[j]?) ∧
      (storeCells ⟨g, o, none⟩ vs i).run P w = .ok () (World.setBlk w g (.cells cur' t fz)) := by
  intro vs
  induction vs with
  | nil =>
    intro i cur w h _ _ _
    refine ⟨cur, rfl, fun j => by rw [if_neg (by simp)], ?_⟩
    have : World.setBlk w g (.cells cur t fz) = w := by
      unfold World.setBlk
      have : w.heap.setIfInBounds g (.cells cur t fz) = w.heap := by
        apply Array.ext_getElem?
        intro k
        rw [Array.getElem?_setIfInBounds]
        split
        · rename_i e; subst e; rw [h]; simp [(Array.getElem?_eq_some_iff.1 h).1]
        · rfl
      rw [this]
    rw [this]; rfl
  | cons v vs ih =>
    intro i cur w h hfz hlen h1
    simp only [List.length_cons] at hlen
    have hg : g < w.heap.size := (Array.getElem?_eq_some_iff.1 h).1
    have hc : w.cell? ⟨g, o + i, none⟩ = some (cur[o + i]'(by omega)) := by simp [World.cell?, h]
    have hf : w.frozen? ⟨g, o + i, none⟩ = false := by
      simp only [World.frozen?, h]
      rcases hfz with hfz | hfz
      · simp; omega
      · simp; omega
    have hst : (store (Addr.add ⟨g, o, none⟩ i) v).run P w = .ok () (World.setBlk w g (.cells (cur.setIfInBounds (o + i) v) t fz)) := by
      rw [add_eq, run_store P w _ _ _ (h1 v (by simp)), hc]
      simp only [hf]
      rw [← setCell_setBlk h]; rfl
    obtain ⟨cur', hs, hj, hr⟩ := ih (i + 1) (cur.setIfInBounds (o + i) v) (World.setBlk w g (.cells (cur.setIfInBounds (o + i) v) t fz)) (by rw [setBlk_get, if_pos ⟨rfl, hg⟩]) (by simpa using hfz) (by simp; omega) (fun u hu => h1 u (by simp [hu]))
    refine ⟨cur', by simpa using hs, fun j => ?_, ?_⟩
    · rw [hj, Array.getElem?_setIfInBounds]
      by_cases e : j = o + i
      · subst e
        rw [if_neg (by omega), if_pos rfl, if_pos (by omega), if_pos (by simp)]
        simp
      · by_cases e2 : o + (i + 1) ≤ j ∧ j < o + (i + 1) + vs.length
        · rw [if_pos e2, if_pos (by simp; omega)]
          rw [show j - (o + i) = (j - (o + (i + 1))) + 1 by omega]; simp
        · rw [if_neg e2, if_neg (by omega), if_neg (by simp; omega)]
    · rw [storeCells]
      simp only [Sem.run_bind, hst, Result.andThen_ok, hr, setBlk_setBlk]

theorem HRel.upd (hH : HRel N μ H w) {a : Nat} {x x' : ABlk} {i : BI} {o' : Obj} (hx : H.t.get a = some x) (hi : μ a = some i) (ha : 256 ≤ a) (hb : BRel μ i x' o') : HRel N μ (setBlk H a x') (World.setBlk w i.b o') := by
  have hget : ∀ b, (Am.setBlk H a x').t.get b = if b = a then some x' else H.t.get b := fun b => Tr.get_set _ _ _ _
  have hlt := (hH.own a i ha hi).2
  refine ⟨hH.glob, ?_, hH.next, ?_, ?_, ?_, ?_, ?_⟩
  · intro b y hb hy; rw [hget, if_neg (by omega)] at hy; exact hH.low b y hb hy
  · have := hH.size; simpa [World.setBlk] using this
  · intro b hb
    have hb' : H.next ≤ b := hb
    have := hH.lt hi
    rw [hget, if_neg (by omega)]
    exact hH.fresh b hb'
  · intro b y hy
    rw [hget] at hy
    split at hy
    · rename_i e; subst e; cases hy
      exact ⟨i, o', hi, by rw [setBlk_get, if_pos ⟨rfl, hlt⟩], hb⟩
    · rename_i hne
      obtain ⟨j, q, h1, h2, h3⟩ := hH.blk b y hy
      refine ⟨j, q, h1, ?_, h3⟩
      rw [setBlk_get, if_neg]
      · exact h2
      · rintro ⟨e, _⟩
        by_cases hb : 256 ≤ b
        · exact hne (hH.inj b a y x j i hy hx h1 hi hb ha e)
        · have h4 := hH.glob b (by omega)
          rw [h4] at h1; cases h1
          have h5 := hH.low b y (by omega) hy
          have h6 := (hH.own a i ha hi).1
          have : b = i.b := e
          omega
  · intro b j hb hj; have := hH.own b j hb hj; exact ⟨this.1, by simpa [World.setBlk] using this.2⟩
  · intro b c y z j k hy hz hj hk hb hc hjk
    have key : ∀ b y, (Am.setBlk H a x').t.get b = some y → ∃ y', H.t.get b = some y' := by
      intro b y hy
      rw [hget] at hy
      split at hy
      · rename_i e; subst e; exact ⟨x, hx⟩
      · exact ⟨y, hy⟩
    obtain ⟨y', hy'⟩ := key b y hy
    obtain ⟨z', hz'⟩ := key c z hz
    exact hH.inj b c y' z' j k hy' hz' hj hk hb hc hjk
theorem below_setBlk {g : Nat} {o : Obj} (h : N ≤ g) : Below N w (World.setBlk w g o) :=
  ⟨rfl, rfl, rfl, by simp [World.setBlk], fun k hk => by rw [setBlk_get, if_neg (by omega)]⟩
theorem LRel.one {l : List AVal} : ∀ {vs : List Value}, LRel μ l vs → (∀ a ∈ l, a.one = true) → ∀ v ∈ vs, v.oneCell' = true := by
  induction l with
  | nil => intro vs h _ v hv; rw [LRel] at h; subst h; cases hv
  | cons a l ih =>
    intro vs h k v hv
    rw [LRel] at h
    obtain ⟨u, r, rfl, h1, h2⟩ := h
    rcases List.mem_cons.1 hv with rfl | hv
    · exact h1.one (k a (by simp))
    · exact ih h2 (fun b hb => k b (by simp [hb])) v hv
/-- the cells of a block, written from a place on -/
theorem BRel.write {i : BI} {c : Tr AVal} {n : Nat} {loose : Option Nat} {cs cs' : Array Value} {elem : TypeId} {fr : Nat × Nat} (h : BRel μ i (.cells c n loose) (.cells cs elem fr)) {l : List AVal} {vs : List Value} (hl : LRel μ l vs)
    {off : Nat} (hoff : off + l.length ≤ n) (hs : cs'.size = cs.size) (hj : ∀ j : Nat, cs'[j]? = if off ≤ j ∧ j < off + vs.length then vs[j - off]? else cs[j]?) : BRel μ i (.cells (c.setMany l off) n loose) (.cells cs' elem fr) := by
  obtain ⟨cs0, elem0, fr0, e, h2, h3, h4, h5⟩ := h
  cases e
  have hlen := hl.length
  refine ⟨cs', elem, fr, rfl, by omega, by rw [hs]; exact h3, fun j v hv => ?_, by rw [hs]; exact h5⟩
  rw [Tr.get_setMany] at hv
  split at hv
  · rename_i hjr
    obtain ⟨u, hu, hr⟩ := hl.get hv
    refine ⟨by omega, u, ?_, hr⟩
    rw [hj, if_pos (by omega)]; exact hu
  · rename_i hjr
    obtain ⟨a, v', d, f⟩ := h4 j v hv
    refine ⟨a, v', ?_, f⟩
    rw [hj, if_neg (by omega)]; exact d
theorem storeA_ok (hbase : 256 ≤ C.base) (hH : HRel N μ H w) {b off : Nat} {l : List AVal} {H' : AHeap} (h : storeA C H b off l = some H') {i : BI} (hi : μ b = some i) {vs : List Value} (hl : LRel μ l vs) :
    ∃ w', (storeCells ⟨i.b, off, none⟩ vs).run P w = .ok () w' ∧ HRel N μ H' w' ∧ Below N w w' := by
  unfold storeA at h
  simp only [guardO_some, ob_some, Bool.and_eq_true, bles, llen_eq, lall_eq, Bool.not_eq_true'] at h
  obtain ⟨hb, c, hc, ⟨hle, hall⟩, h⟩ := h
  cases h
  have hb' : 256 ≤ b := by
    have : ¬ b < C.base := fun k => by rw [blts.2 k] at hb; cases hb
    omega
  have hx := blkCells_some hc
  obtain ⟨i', o, h1, h2, h3⟩ := hH.blk _ _ hx
  rw [hi] at h1; cases h1
  have h3' := h3
  obtain ⟨cs, elem, fr, rfl, h4, h5, _, _⟩ := h3
  have hone : ∀ a ∈ l, a.one = true := fun a ha => List.all_eq_true.1 hall a ha
  have hlen := hl.length
  obtain ⟨cs', hs, hj, hr⟩ := run_storeCells_mid (P := P) (o := off) vs 0 cs w h2 h5 (by omega) (hl.one hone)
  have hown := hH.own b i hb' hi
  exact ⟨_, hr, hH.upd hx hi hb' (h3'.write hl hle hs (by simpa using hj)), below_setBlk hown.1⟩
theorem LRel.rel_one {l : List AVal} {vs : List Value} (hl : LRel μ l vs) {i : BI} (ht : i.tight = true) {elem : TypeId} : BRel μ i (.cells (Tr.ofList l) (llen l) none) (.cells vs.toArray elem (0, 0)) := by
  have hlen := hl.length
  refine ⟨vs.toArray, elem, (0, 0), rfl, by rw [llen_eq]; simp [hlen], .inl (Nat.le_refl _), fun j v hv => ?_, ht⟩
  rw [Tr.get_ofList] at hv
  obtain ⟨u, hu, hr⟩ := hl.get hv
  refine ⟨by rw [llen_eq]; exact (List.getElem?_eq_some_iff.1 hv).1, u, by simpa using hu, hr⟩
/-- a new tight block of cells -/
theorem HRel.newTight (hH : HRel N μ H w) {l : List AVal} {vs : List Value} (hl : LRel μ l vs) (elem : TypeId) :
    HRel N (μ.ext H.next ⟨w.heap.size, true, 0, 0⟩) (newCells H l none) (w.alloc (.cells vs.toArray elem)) :=
  hH.newBlk rfl ((LRel.mono (Mu.ext_le (hH.fresh _ (Nat.le_refl _)).1) _ _ hl).rel_one rfl)
theorem below_alloc (h : N ≤ w.heap.size) (o : Obj) : Below N w (w.alloc o) := (Below.refl N w).alloc h o
theorem HRel.ext_le (hH : HRel N μ H w) {i : BI} : μ.le (μ.ext H.next i) := Mu.ext_le (hH.fresh _ (Nat.le_refl _)).1
end
end Go.Am
