/- The steps of a region that draws. -/
import Derived.Test.YtbgilkcahebbfaaGreatDoorB03
set_option linter.all false
noncomputable section
namespace Go.Am
open Go Go.RowKit
section steps
variable {P : Program} {fr b : Frame} {a : Act} {k : List Item} {cs : List Frame} {w w' : World} {s : Sem Next} {ops : Array Oper}
theorem z2g {v : Value} (hr : s.run P w = .ok (.value v) w') :
  (stepG.apply P true fr cs none s w).bare = .go { frame := fr.finish v, callers := cs, status := .running, dying := none } w' := by
 simp [stepG.apply, Sem.runT_eq, hr]
theorem z67 (hr : s.run P w = .ok .skip w') :
  (stepG.apply P true fr cs none s w).bare = .go { frame := fr.finish undef, callers := cs, status := .running, dying := none } w' := by
 simp [stepG.apply, Sem.runT_eq, hr]
theorem zlt {i : Nat} {rest : List Nat} {o : Oper} {v : Value} (ho : ops[i]? = some o) (hw : Region.wanted o (yielded ops a.tmps) = true)
  (hr : (o.semAt b.roundOf a.eval).run P w = .ok (.value v) w') :
  step P (lone (b.atR a (.inRegion ops (i :: rest) :: k)) cs w) = .next (lone (b.atR (a.put o.dst v) (.inRegion ops rest :: k)) cs w') := by
 have := Frame.finish_atR b a ops i rest k v
 rw [ho] at this; simp only [Option.bind_some] at this; rw [<- this]; exact step_lone_go (by rw [stepGR_op ho hw]; exact z2g hr)
theorem zvi {i : Nat} {rest : List Nat} {o : Oper} (ho : ops[i]? = some o) (hw : Region.wanted o (yielded ops a.tmps) = true)
  (hr : (o.semAt b.roundOf a.eval).run P w = .ok .skip w') :
  step P (lone (b.atR a (.inRegion ops (i :: rest) :: k)) cs w) = .next (lone (b.atR (a.put o.dst undef) (.inRegion ops rest :: k)) cs w') := by
 have := Frame.finish_atR b a ops i rest k undef
 rw [ho] at this; simp only [Option.bind_some] at this; rw [<- this]; exact step_lone_go (by rw [stepGR_op ho hw]; exact z67 hr)
theorem zg4 {i : Nat} {rest : List Nat} {o : Oper} (ho : ops[i]? = some o) (hw : Region.wanted o (yielded ops a.tmps) = false) :
  step P (lone (b.atR a (.inRegion ops (i :: rest) :: k)) cs w) = .next (lone (b.atR (a.put o.dst undef) (.inRegion ops rest :: k)) cs w) := by
 have := stepR_op_skip (P := P) (b := b) (a := a) (k := k) (cs := cs) (w := w) (ops := ops) (i := i) (rest := rest) (by rw [ho]; simpa using hw)
 rw [this, ho]; rfl
end steps
mutual
theorem z0u : ∀ (d : Nat) (a b : zab), same d a b = true -> a = b
 | d, a, b, h => by
  cases a <;> cases b <;> cases d <;> simp [same, znh, zev, zlg, zek, Nat.beq_eq] at h ⊢
  all_goals first
   | exact h
   | (obtain ⟨h1, h2⟩ := h; exact ⟨h1, h2⟩)
   | exact zvr _ _ _ h
   | (obtain ⟨⟨⟨h1, h2⟩, h3⟩, h4⟩ := h; exact ⟨h1, h2, h3, h4⟩)
theorem zvr : ∀ (d : Nat) (a b : List zab), same.sames d a b = true -> a = b
 | d, [], [], _ => rfl
 | d, a :: x, b :: y, h => by
  simp only [same.sames, yac] at h; rw [z0u d a b h.1, zvr d x y h.2]
 | d, [], b :: y, h => by simp [same.sames] at h
 | d, a :: x, [], h => by simp [same.sames] at h
end
section
variable {P : Program} {C : Ctx} {B N : Nat} {μ : Mu} {H H' : zaf} {w : World} {all : Array Oper} {olds : List (Nat × List Nat)} {anc : Tr Nat} {n : Nat} {old tm tm' : Tm} {D D' : Nat} {S : Nat -> Bool} {order : List Nat} {tmps : Array Value} {ds : List Deferred} {dp : Nat}
def zbz (C : Ctx) (μ : Mu) (dp : Nat) (H : zaf) (all : Array Oper) (olds : List (Nat × List Nat)) (n : Nat) (old tm : Tm) (D : Nat) (S : Nat -> Bool) : Prop :=
 ∀ i, tb D i = true -> S i = false -> (∃ o w v, zw5 C H all olds n old tm i o w v) \/ ∃ o v, zsz C μ dp all olds n old tm i o v
theorem zkp : ∀ (l : List Nat) (tm : Tm) (D : Nat), zfh C H all n old olds l tm = some tm' -> zdj all.toList l D = some D' -> zb3 μ all olds anc n old tm D S order tmps -> zbz C μ dp H all olds n old tm D S →
  zb3 μ all olds anc n old tm' D' S order tmps /\ zbz C μ dp H all olds n old tm' D' S := by
 intro l; induction l with
 | nil => intro tm D h hD R hp; cases h; cases hD; exact ⟨R, hp⟩
 | cons i l ih =>
  intro tm D h hD R hp; unfold zfh at h; unfold zdj at hD; rw [zad] at hD; obtain ⟨D1, h1, hD⟩ := hD
  simp only [zad, zbn] at h; obtain ⟨o, ho, wn, hw, v, hv, h⟩ := h
  obtain ⟨o', ho', hi, hb, hD1⟩ := zin h1
  have ho2 : all[i]? = some o := by simpa using ho
  rw [ho2] at ho'; cases ho'
  have hval : if wn = true then (zbx o.op).f C (zmo tm old olds i o) H = some v else v = zbh := by
   cases wn with
   | true => rw [if_pos rfl]; exact hv
   | false => rw [if_neg (by simp)]; exact (ybj hv).symm
  refine ih _ _ h hD (R.light ho2 hi hb hD1) fun j hj hSj => ?_
  rw [hD1] at hj; simp only [ybr, beq_iff_eq] at hj; rcases hj with hj | rfl
  ·rcases hp j hj hSj with ⟨u, wu, vu, pu⟩ | ⟨u, vu, pu⟩
   ·exact .inl ⟨u, wu, vu, pu.keep R.reg R.dclosed hj ho2 hi⟩
   ·exact .inr ⟨u, vu, pu.keep R.reg R.dclosed hj ho2 hi⟩
  ·exact .inl ⟨o, wn, v, zw5.fresh R.reg R.dclosed ho2 hb hi hw hval⟩
structure Weak (all : Array Oper) (n : Nat) (tm : Tm) (i : Nat) (o : Oper) (w : Bool) (v : zab) : Prop where
 op : all[i]? = some o
 want : zbb o.guard all tm = some w
 val : w = false -> v = zbh
 put : ∀ d, o.dst = some d -> d < n -> tm.get d = some v
theorem zzc4 : ∀ (l : List Nat), zph C H all old olds tm l = true -> ∀ i ∈ l, ∀ o w v, Weak all n tm i o w v -> ∃ v, zw5 C H all olds n old tm i o w v := by
 intro l; induction l with
 | nil => intro _ i hi; cases hi
 | cons j l ih =>
  intro h i hi o w v W; unfold zph at h; split at h
  case h_2 => cases h
  rename_i hx; rcases yat.1 hi with rfl | hi
  ·simp only [zad, zbn] at hx
   obtain ⟨o', ho', d, hd, wn, hw, hx⟩ := hx
   have ho2 : all[i]? = some o' := by simpa using ho'
   rw [W.op] at ho2; cases ho2; rw [W.want] at hw; cases hw
   cases w with
   | false => exact ⟨v, W.op, W.want, by rw [if_neg (by simp)]; exact W.val rfl, W.put⟩
   | true =>
    simp only [cond_true, zad] at hx; obtain ⟨v1, hv1, u, hu, hs⟩ := hx
    have e := z0u _ _ _ (ybj hs)
    refine ⟨v1, W.op, W.want, by rw [if_pos rfl]; exact hv1, fun d' hd' hn => ?_⟩
    rw [hd] at hd'; cases hd'
    rw [hu, e]
  ·exact ih h i hi o w v W
end
end Go.Am
namespace Go.Am
open Go Go.RowKit
section
variable {P : Program} {C : Ctx} {B N : Nat} {μ : Mu} {H H' : zaf} {w : World} {all : Array Oper} {olds : List (Nat × List Nat)} {anc : Tr Nat} {n : Nat} {old tm tm' : Tm} {D D' : Nat} {S : Nat -> Bool} {order : List Nat} {tmps : Array Value} {ds : List Deferred} {dp : Nat}
variable {b : Frame} {k : List Item} {cs : List Frame}
structure ztn (B N dp : Nat) (μ : Mu) (H : zaf) (w : World) (μ' : Mu) (w' : World) : Prop where
 heap : zbf B N μ' H w'
 le : μ.lw μ'
 pd : ∀ d, d ≠ dp -> μ.ln d μ'
 below : Below N w w'
theorem ztn.refl (hH : zbf B N μ H w) : ztn B N dp μ H w μ w := ⟨hH, fun _ _ h => h, fun d _ => μ.ln_refl d, Below.refl _ _⟩
theorem ztn.trans {μ1 μ2 : Mu} {w1 w2 : World} (h : ztn B N dp μ H w μ1 w1) (k : ztn B N dp μ1 H w1 μ2 w2) : ztn B N dp μ H w μ2 w2 :=
 ⟨k.heap, fun a i e => k.le a i (h.le a i e), fun d hd => Mu.ln_trans (h.pd d hd) (k.pd d hd), h.below.trans k.below⟩
theorem zx9 (hT : zc6 P C) (hH : zbf B N μ H w) {i : Nat} (R : zb3 μ all olds anc n old tm D S (i :: order) tmps) (hp : zbz C μ dp H all olds n old tm D S) (hi : tb D i = true) :
  ∃ S' tmps' μ' w', step P (lone (b.atR ⟨tmps, ds⟩ (.inRegion all (i :: order) :: k)) cs w) = .next (lone (b.atR ⟨tmps', ds⟩ (.inRegion all order :: k)) cs w') /\ ztn B N dp μ H w μ' w' ∧
   zb3 μ' all olds anc n old tm D S' order tmps' /\ zbz C μ' dp H all olds n old tm D S' /\ ∀ k, S k = true -> S' k = true := by
 obtain ⟨o, ho, hS, hb, _⟩ := R.sched
 have hDD : ∀ k, tb D k = (tb D k || k == i) := by
  intro k; by_cases e : k = i
  ·subst e; rw [hi]; rfl
  ·have : (k == i) = false := by simpa using e
   rw [this, Bool.or_false]
 have ds' : ∀ v', Act.put ⟨tmps, ds⟩ o.dst v' = ⟨(Act.put ⟨tmps, ds⟩ o.dst v').tmps, ds⟩ := by intro v'; unfold Act.put; cases o.dst <;> rfl
 rcases hp i hi hS with ⟨o', wn, v, pd⟩ | ⟨o', v, pd⟩
 ·have := pd.op
  rw [ho] at this; cases this
  have hw := R.wanted ho hb pd.want
  have rest : ∀ v', zan μ v v' -> zb3 μ all olds anc n old tm D (fun k => S k || k == i) order (Act.put ⟨tmps, ds⟩ o.dst v').tmps /\ zbz C μ dp H all olds n old tm D (fun k => S k || k == i) := by
   intro v' hv; refine ⟨R.did ho hDD pd.put (fun _ _ => rfl) hv, fun j hj hSj => hp j hj ?_⟩
   simp only [Bool.or_eq_false_iff] at hSj; exact hSj.1
  cases wn with
  | false =>
   have hv := pd.val
   rw [if_neg (by simp)] at hv
   subst hv; obtain ⟨r1, r2⟩ := rest undef zkj
   refine ⟨_, _, μ, w, ?_, .refl hH, r1, r2, fun k hk => by simp only [hk, Bool.true_or]⟩
   rw [<- ds']; exact zg4 (a := ⟨tmps, ds⟩) ho hw
  | true =>
   have hv := pd.val
   rw [if_pos rfl] at hv; obtain ⟨v', h1, h2⟩ := zzc3 hT hH (R.erel (ds := ds) hH.glob ho hS hb) hv
   obtain ⟨r1, r2⟩ := rest v' h2
   refine ⟨_, _, μ, w, ?_, .refl hH, r1, r2, fun k hk => by simp only [hk, Bool.true_or]⟩
   rw [<- ds']; refine zlt (a := ⟨tmps, ds⟩) ho hw ?_
   rw [Oper.semAt_eq]
   ·exact h1
   ·intro c e
    rw [e] at hv
    cases hv
 ·have := pd.op
  rw [ho] at this; cases this
  have hw := R.wanted ho hb pd.want
  obtain ⟨H0, l, h1, h2⟩ := pd.val
  obtain ⟨l', vs, v', elem, e1, run, hl, hv⟩ := zzfs (P := P) (w := w) hT (R.erel (ds := ds) hH.glob ho hS hb) o pd.flo pd.lo h1
  have e2 : za0 H0 l none = za0 H0 l' none := e1
  have p1 := (hH.pnd _ _ _ h2).1
  have lg : ∀ c, (μ.land H0.next ⟨w.heap.size, true, 0, 0, false⟩) c = if c = H0.next then some ⟨w.heap.size, true, 0, 0, false⟩ else μ c := fun _ => rfl
  have hle : μ.lw (μ.land H0.next ⟨w.heap.size, true, 0, 0, false⟩) := fun c j hj => by
   rw [lg, if_neg fun e => by rw [e, p1] at hj; cases hj]; exact hj
  have hlp : ∀ c x d j, (d ≠ dp \/ j ≠ i) -> μ.pd c = some (x, d, j) -> (μ.land H0.next ⟨w.heap.size, true, 0, 0, false⟩).pd c = some (x, d, j) := by
   intro c x d j hne hc; show (if c = H0.next then none else μ.pd c) = _
   rw [if_neg]
   ·exact hc
   ·intro e
    rw [e, h2] at hc
    cases hc; rcases hne with h | h <;> exact h rfl
  have hblk : (zak.cells (Tr.ofList l) (zbw l) none) = .cells (Tr.ofList l') (zbw l') none := by
   have h3 : (za0 H0 l none).t.get H0.next = (za0 H0 l' none).t.get H0.next := by rw [e2]
   have hg : ∀ m, (za0 H0 m none).t.get H0.next = some (.cells (Tr.ofList m) (zbw m) none) := fun m => by
    show (H0.t.set H0.next _).get H0.next = _
    rw [Tr.get_set, if_pos rfl]
   rw [hg, hg] at h3; exact ybj h3
  have hH' : zbf B N (μ.land H0.next ⟨w.heap.size, true, 0, 0, false⟩) H (w.alloc (.cells vs elem)) := by
   refine hH.late h2 rfl rfl ?_
   rw [hblk]; have := (zbk.mono hle _ _ hl).rel_one (i := ⟨w.heap.size, true, 0, 0, false⟩) rfl (elem := elem)
   rwa [Array.toArray_toList] at this
  have hvr := hv (μ.land H0.next ⟨w.heap.size, true, 0, 0, false⟩) ⟨w.heap.size, true, 0, 0, false⟩ (by rw [lg, if_pos rfl]) rfl rfl
  refine ⟨fun k => S k || k == i, (Act.put ⟨tmps, ds⟩ o.dst v').tmps, μ.land H0.next ⟨w.heap.size, true, 0, 0, false⟩, w.alloc (.cells vs elem), ?_, ⟨hH', hle, fun d hd => ⟨hle, fun c x j hc => hlp c x d j (.inl hd) hc⟩, zcd hH.size _⟩,
   (R.mono hle).did ho hDD pd.put (fun _ _ => rfl) hvr, fun j hj hSj => ?_, fun k hk => by simp only [hk, Bool.true_or]⟩
  ·rw [<- ds']
   refine zlt (a := ⟨tmps, ds⟩) ho hw ?_
   rw [Oper.semAt_eq]
   ·exact run
   ·intro c e
    have := pd.flo
    rw [e] at this
    cases this
  ·simp only [Bool.or_eq_false_iff, beq_eq_false_iff_ne] at hSj
   rcases hp j hj hSj.1 with h | ⟨u, vu, pu⟩
   ·exact .inl h
   ·refine .inr ⟨u, vu, pu.op, pu.flo, pu.want, ?_, pu.put, pu.lo⟩
    obtain ⟨H1, m, g1, g2⟩ := pu.val
    exact ⟨H1, m, g1, hlp _ _ _ _ (.inr hSj.2) g2⟩
theorem z3l (hT : zc6 P C) (hH : zbf B N μ H w) {i : Nat} (R : zb3 μ all olds anc n old tm D S (i :: order) tmps) (hp : zbz C μ dp H all olds n old tm D S) (hi : tb D i = true) :
  ∃ S' tmps' μ' w', step P (lone (b.atR ⟨tmps, ds⟩ (.inRegion all (i :: order) :: k)) cs w) = .next (lone (b.atR ⟨tmps', ds⟩ (.inRegion all order :: k)) cs w') /\ ztn B N dp μ H w μ' w' ∧
   zb3 μ' all olds anc n old tm D S' order tmps' /\ zbz C μ' dp H all olds n old tm D S' := by
 obtain ⟨S', tmps', μ', w', h1, h2, h3, h4, _⟩ := zx9 (b := b) (k := k) (cs := cs) (ds := ds) hT hH R hp hi
 exact ⟨S', tmps', μ', w', h1, h2, h3, h4⟩
theorem reach (hT : zc6 P C) {st : zcz} {r : List zcz} (hst : zb2 all.toList anc (st :: r) D = true) (hlt : st.heavy <= all.size) : ∀ (order : List Nat) (S : Nat -> Bool) (tmps : Array Value) (μ : Mu) (w : World), zbf B N μ H w →
  zb3 μ all olds anc n old tm D S order tmps -> zbz C μ dp H all olds n old tm D S →
  ∃ S' order' tmps' μ' w', Steps P (lone (b.atR ⟨tmps, ds⟩ (.inRegion all order :: k)) cs w) (lone (b.atR ⟨tmps', ds⟩ (.inRegion all (st.heavy :: order') :: k)) cs w') /\ ztn B N dp μ H w μ' w' ∧
   zb3 μ' all olds anc n old tm D S' (st.heavy :: order') tmps' /\ zbz C μ' dp H all olds n old tm D S' := by
 obtain ⟨only, _, D1, D2, h1, _⟩ := zgr hst hlt
 obtain ⟨oh, hoh, hh, hbh, _⟩ := zin h1
 intro order; induction order with
 | nil =>
  intro S tmps μ w _ R hp; have := R.sub _ (R.sched st.heavy (yaf.1 hoh).1)
  rw [hh] at this; cases this
 | cons i order ih =>
  intro S tmps μ w hH R hp
  cases hi : tb D i with
  | true =>
   obtain ⟨S', tmps', μ1, w1, s1, g1, r1, p1⟩ := z3l (b := b) (k := k) (cs := cs) (ds := ds) hT hH R hp hi
   obtain ⟨S2, order', tmps2, μ2, w2, s2, g2, r2⟩ := ih S' tmps' μ1 w1 g1.heap r1 p1
   exact ⟨S2, order', tmps2, μ2, w2, .head s1 s2, g1.trans g2, r2⟩
  | false =>
   obtain ⟨o, ho, hS, hb, _⟩ := R.sched
   have := only i o ho hi fun j hj => R.sub j (hb j hj)
   subst this; exact ⟨S, order, tmps, μ, w, .refl _ _, .refl hH, R, hp⟩
theorem regEnd (hT : zc6 P C) (hst : zb2 all.toList anc [] D = true) : ∀ (order : List Nat) (S : Nat -> Bool) (tmps : Array Value) (μ : Mu) (w : World), zbf B N μ H w →
  zb3 μ all olds anc n old tm D S order tmps -> zbz C μ dp H all olds n old tm D S →
  ∃ tmps' μ' w', Steps P (lone (b.atR ⟨tmps, ds⟩ (.inRegion all order :: k)) cs w) (lone (b.atR ⟨tmps', ds⟩ k) cs w') /\ ztn B N dp μ H w μ' w' /\ zct μ' n tm tmps' := by
 have full := zyf hst
 intro order; induction order with
 | nil =>
  intro S tmps μ w hH R hp; refine ⟨tmps, μ, w, .one stepR_region_end, .refl hH, R.size, fun t v hv => ?_⟩
  by_cases hn : t < n
  ·by_cases hw : ∃ (j : Nat) (u : Oper), all[j]? = some u /\ u.dst = some t
   ·obtain ⟨j, u, hu, hud⟩ := hw
    exact R.now j u t v hu hud (R.sched j (yaf.1 hu).1) hn hv
   ·have k := R.keep t hn fun i o h1 h2 => absurd ⟨i, o, h1, h2⟩ hw
    exact R.past t v hn (fun i o h1 h2 => absurd ⟨i, o, h1, h2⟩ hw) (by rw [<- k]; exact hv)
  ·rw [zkt (by rw [R.size]; omega)]
   exact R.big t v (by omega) (.inl hv)
 | cons i order ih =>
  intro S tmps μ w hH R hp; obtain ⟨o, ho, _⟩ := R.sched
  obtain ⟨S', tmps', μ1, w1, s1, g1, r1, p1⟩ := z3l (b := b) (k := k) (cs := cs) (ds := ds) hT hH R hp (full i (yaf.1 ho).1)
  obtain ⟨tmps2, μ2, w2, s2, g2, r2⟩ := ih S' tmps' μ1 w1 g1.heap r1 p1
  exact ⟨tmps2, μ2, w2, .head s1 s2, g1.trans g2, r2⟩
theorem zzed (hM : P.follows .mixedOrders = true) {anc : Tr Nat} (hR : zsy all olds anc) (ht : zct μ n old tmps) (t : Nat) :
  zb3 μ all olds anc n old old 0 (fun _ => false) (Region.schedule (P.follows .mixedOrders) all t) tmps /\ zbz C μ dp H all olds n old old 0 (fun _ => false) := by
 refine ⟨⟨hR, ?_, fun i h => (by cases h), fun i o _ h => (by cases h), fun i o _ h => (by rw [zvg] at h; cases h), ht.1, fun i o d v _ _ h => (by cases h), fun d v _ _ h => ht.2 d v h, fun _ _ _ => rfl, fun d v hd h => ?_⟩, fun i h => (by rw [zvg] at h; cases h)⟩
 ·rw [hM]
  unfold Region.schedule; simp only [Bool.true_or, if_true]; have := zzd6 hR.back all.size t (Array.replicate all.size false) (by simp) (by
   refine Nat.le_trans (List.countP_le_length) ?_
   simp)
  have e : (fun i => (Array.replicate all.size false).getD i false) = fun _ => false := by
   funext i
   simp only [yby, Array.getElem?_replicate]; split <;> rfl
  rw [e] at this; exact this
 ·have h' : old.get d = some v := h.elim id id
  have := ht.2 d v h'
  rw [zkt (by rw [ht.1]; exact hd)] at this
  exact this
def zig (C : Ctx) (μ : Mu) (dp : Nat) (all : Array Oper) (olds : List (Nat × List Nat)) (n : Nat) (old tm : Tm) (D : Nat) (S : Nat -> Bool) (again : List Nat) : Prop :=
 ∀ i, tb D i = true -> S i = false -> (∃ o w v, (∀ H, zw5 C H all olds n old tm i o w v) \/ (i ∈ again /\ Weak all n tm i o w v)) \/ ∃ o v, zsz C μ dp all olds n old tm i o v
theorem zw5.float {i : Nat} {o : Oper} {w : Bool} {v : zab} (h : zw5 C H all olds n old tm i o w v) (hf : zeo o.op = true) (H' : zaf) : zw5 C H' all olds n old tm i o w v := by
 refine ⟨h.op, h.want, ?_, h.put⟩
 have := h.val
 cases w with
 | false => exact this
 | true =>
  rw [if_pos rfl] at this; exfalso
  obtain ⟨dst, op, type, pos, after, guard⟩ := o
  cases op <;> first | (simp [zeo] at hf; done) | cases this
theorem z7s {again : List Nat} (hw : zig C μ dp all olds n old tm D S again) (ha : zph C H all old olds tm again = true) : zbz C μ dp H all olds n old tm D S := by
 intro i hi hS; rcases hw i hi hS with ⟨o, w, v, h | ⟨h1, h2⟩⟩ | h
 ·exact .inl ⟨o, w, v, h H⟩
 ·obtain ⟨v, h⟩ := zzc4 (C := C) (H := H) (olds := olds) (old := old) again ha i h1 o w v h2
  exact .inl ⟨o, w, v, h⟩
 ·exact .inr h
end
end Go.Am
namespace Go.Am
open Go Go.RowKit
section
variable {P : Program} {C : Ctx} {B N : Nat} {μ : Mu} {H H' : zaf} {w : World} {all : Array Oper} {olds : List (Nat × List Nat)} {anc : Tr Nat} {n : Nat} {old tm tm' : Tm} {D D' : Nat} {S : Nat -> Bool} {order : List Nat} {tmps : Array Value} {ds : List Deferred} {dp : Nat}
theorem Weak.keep (R : zsy all olds anc) (hD : zlo all (tb D)) {i k : Nat} {o u : Oper} {w : Bool} {v x : zab} (h : Weak all n tm i o w v) (hi : tb D i = true) (hu : all[k]? = some u) (hk : tb D k = false) :
  Weak all n (putA n tm u.dst x) i o w v := by
 obtain ⟨_, r2⟩ := zmk R hD h.op (.inl hi) hu hk
 refine ⟨h.op, ?_, h.val, ?_⟩
 ·rw [zf9 (tm := tm) fun j w hg g hj d hd => by rw [zby, if_neg fun e => r2 j w hg g hj d hd e.1]]
  exact h.want
 ·intro d hd hn
  rw [zby, if_neg]
  ·exact h.put d hd hn
  ·rintro ⟨e, _⟩
   have := R.one i k o u d h.op hu hd e
   rw [this, hk] at hi; cases hi
theorem toWeak {st : zcz} {r : List zcz} (hst : zb2 all.toList anc (st :: r) D = true) (hlt : st.heavy <= all.size) (R : zb3 μ all olds anc n old tm D S (st.heavy :: order) tmps) (hp : zbz C μ dp H all olds n old tm D S) :
  zig C μ dp all olds n old tm D S st.again := by
 obtain ⟨_, ag, _⟩ := zgr hst hlt
 intro i hDi hSi; rcases hp i hDi hSi with ⟨u, wu, vu, pu⟩ | h
 rotate_left
 ·exact .inr h
 refine .inl ⟨u, wu, vu, ?_⟩
 rcases ag i u pu.op hDi with h | h | h | h
 ·obtain ⟨o, ho, _, hb, _⟩ := R.sched
  have := R.reg.up R.closed ho hb h
  rw [hSi] at this; cases this
 ·exact .inl fun H => pu.pure h H
 ·exact .inl fun H => pu.float h H
 ·exact .inr ⟨h, pu.op, pu.want, fun e => by have := pu.val; rw [e] at this; simpa using this, pu.put⟩
theorem zzdl {h : Nat} {again : List Nat} {D1 : Nat} {o : Oper} {v : zab} {v' : Value} (h1 : zh8 all.toList h D = some D1) (ho : all[h]? = some o)
  (R : zb3 μ all olds anc n old tm D S (h :: order) tmps) (hp : zig C μ dp all olds n old tm D S again) (hv : zan μ v v') :
  zb3 μ all olds anc n old (putA n tm o.dst v) D1 (fun k => S k || k == h) order (Act.put ⟨tmps, ds⟩ o.dst v').tmps /\ zig C μ dp all olds n old (putA n tm o.dst v) D1 (fun k => S k || k == h) again := by
 obtain ⟨o', ho', hi, hb, hD1⟩ := zin h1
 rw [ho] at ho'; cases ho'
 refine ⟨R.did ho hD1 (fun d hd hn => by rw [zby, if_pos ⟨hd, hn⟩]) (fun d hd => by rw [zby, if_neg fun e => absurd (hd e.1) (by omega)]) hv, fun i hDi hSi => ?_⟩
 simp only [Bool.or_eq_false_iff, beq_eq_false_iff_ne] at hSi; rw [hD1] at hDi; simp only [ybr, beq_iff_eq] at hDi; have hDi := hDi.resolve_right hSi.2
 rcases hp i hDi hSi.1 with ⟨u, wu, vu, pu⟩ | ⟨u, vu, pu⟩
 ·exact .inl ⟨u, wu, vu, pu.imp (fun pu H => (pu H).keep R.reg R.dclosed hDi ho hi) (fun pu => ⟨pu.1, pu.2.keep R.reg R.dclosed hDi ho hi⟩)⟩
 ·exact .inr ⟨u, vu, pu.keep R.reg R.dclosed hDi ho hi⟩
inductive zdw (C : Ctx) (μ : Mu) (dp : Nat) (n : Nat) : Option zaf -> List zcj -> Tm -> List Item -> Array Value -> Prop
 | plain {cur : Option zaf} {todo : List zcj} {tm : Tm} {btodo : List Item} {tmps : Array Value} : zex (zbj μ) todo btodo -> zct μ n tm tmps -> zdw C μ dp n cur todo tm btodo tmps
 | reg {H : zaf} {all : Array Oper} {old tm : Tm} {olds : List (Nat × List Nat)} {stages : List zcz} {k : List zcj} {order : List Nat} {k' : List Item} {tmps : Array Value} {anc : Tr Nat} {D : Nat} {S : Nat -> Bool} :
   zb3 μ all olds anc n old tm D S order tmps -> zb2 all.toList anc stages D = true -> zbz C μ dp H all olds n old tm D S -> zex (zbj μ) k k' →
   zdw C μ dp n (some H) (.reg all old olds stages :: k) tm (.inRegion all order :: k') tmps
 | mid {cur : Option zaf} {all : Array Oper} {old tm : Tm} {olds : List (Nat × List Nat)} {lights again : List Nat} {stages : List zcz} {k : List zcj} {order : List Nat} {k' : List Item} {tmps : Array Value} {anc : Tr Nat} {D D2 : Nat} {S : Nat -> Bool} :
   zb3 μ all olds anc n old tm D S order tmps -> zdj all.toList lights D = some D2 -> zb2 all.toList anc stages D2 = true -> zig C μ dp all olds n old tm D S again -> zex (zbj μ) k k' →
   zdw C μ dp n cur (.reg all old olds (⟨all.size, lights, again⟩ :: stages) :: k) tm (.inRegion all order :: k') tmps
 | wait {all : Array Oper} {old tm : Tm} {olds : List (Nat × List Nat)} {st : zcz} {stages : List zcz} {k : List zcj} {order : List Nat} {k' : List Item} {tmps : Array Value} {anc : Tr Nat} {D : Nat} {S : Nat -> Bool} :
   zb3 μ all olds anc n old tm D S (st.heavy :: order) tmps -> zb2 all.toList anc (st :: stages) D = true -> st.heavy <= all.size -> zig C μ dp all olds n old tm D S st.again -> zex (zbj μ) k k' →
   zdw C μ dp n none (.reg all old olds (st :: stages) :: k) tm (.inRegion all (st.heavy :: order) :: k') tmps
theorem zbz.mono {ν : Mu} (h : μ.ln dp ν) (p : zbz C μ dp H all olds n old tm D S) : zbz C ν dp H all olds n old tm D S :=
 fun i h1 h2 => (p i h1 h2).imp id fun ⟨o, v, q⟩ => ⟨o, v, q.mono h⟩
theorem zig.mono {ν : Mu} {again : List Nat} (h : μ.ln dp ν) (p : zig C μ dp all olds n old tm D S again) : zig C ν dp all olds n old tm D S again :=
 fun i h1 h2 => (p i h1 h2).imp id fun ⟨o, v, q⟩ => ⟨o, v, q.mono h⟩
theorem zdw.mono {ν : Mu} (h : μ.ln dp ν) {cur : Option zaf} {todo : List zcj} {btodo : List Item} (R : zdw C μ dp n cur todo tm btodo tmps) : zdw C ν dp n cur todo tm btodo tmps := by
 have mk : ∀ {k : List zcj} {k' : List Item}, zex (zbj μ) k k' -> zex (zbj ν) k k' := fun k => zex.mono (fun _ _ r => zbj.mono h r) k
 cases R with
 | plain a b => exact .plain (mk a) (b.mono h)
 | reg a b c d => exact .reg (a.mono h) b (c.mono h) (mk d)
 | mid a b c d e => exact .mid (a.mono h) b c (d.mono h) (mk e)
 | wait a b b' c d => exact .wait (a.mono h) b b' (c.mono h) (mk d)
end
end Go.Am
namespace Go.Am
open Go Go.RowKit
section
variable {P : Program} {C : Ctx} {B N : Nat} {μ ν : Mu} {H H' : zaf} {w : World} {n : Nat} {tm : Tm} {tmps : Array Value} {ds : List Deferred} {dp : Nat}
theorem zct.put {v : zab} {v' : Value} {dst : Option Nat} (h : zct μ n tm tmps) (hv : zan μ v v') : zct μ n (putA n tm dst v) (Act.put ⟨tmps, ds⟩ dst v').tmps := by
 cases dst with
 | none => exact h
 | some d =>
  refine ⟨by simp [Act.put, h.1], fun t x hx => ?_⟩
  rw [zby] at hx; simp only [Act.put, yby, ybt]; by_cases e : d = t
  ·subst e
   by_cases hn : d < n
   ·rw [if_pos ⟨rfl, hn⟩] at hx
    cases hx; simp [h.1, hn, hv]
   ·rw [if_neg fun k => hn k.2] at hx
    have := h.2 d x hx
    rw [zkt (by rw [h.1]; omega)] at this
    simp [h.1, hn, this]
  ·rw [if_neg fun k => e (ybj k.1)] at hx
   have := h.2 t x hx
   rw [yby] at this; simpa [e] using this
structure zgf (C : Ctx) (μ : Mu) (dp : Nat) (cur : Option zaf) (fr : zap) (b : Frame) : Prop where
 rest : zbq μ fr.R b
 body : if fr.R.mode.running = true then zdw C μ dp fr.R.n cur fr.todo fr.tm b.todo b.tmps else zct μ fr.R.n fr.tm b.tmps
theorem zgf.mono (h : μ.ln dp ν) {cur : Option zaf} {fr : zap} {b : Frame} (r : zgf C μ dp cur fr b) : zgf C ν dp cur fr b := by
 refine ⟨r.rest.mono h, ?_⟩
 have := r.body
 split at this
 ·rename_i e; rw [if_pos e]; exact this.mono h
 ·rename_i e; rw [if_neg e]; exact this.mono h
inductive Frs (C : Ctx) (μ : Mu) : List zap -> List Frame -> Prop
 | nil : Frs C μ [] []
 | cons {a : zap} {b : Frame} {l : List zap} {m : List Frame} : zgf C μ l.length none a b -> Frs C μ l m -> Frs C μ (a :: l) (b :: m)
theorem Frs.monoD {l : List zap} {m : List Frame} (r : Frs C μ l m) (h : ∀ d, d < l.length -> μ.ln d ν) : Frs C ν l m := by
 induction r with
 | nil => exact .nil
 | @cons a b l m h1 h2 ih => exact .cons (h1.mono (h _ (by simp))) (ih fun d hd => h d (by simp; omega))
theorem Frs.mono {l : List zap} {m : List Frame} (r : Frs C μ l m) (h : μ.le ν) : Frs C ν l m := r.monoD fun d _ => h.ln d
theorem zhf {fr fr' : zap} {b : Frame} {v : zab} {v' : Value} {cur : Option zaf} (r : zgf C μ dp none fr b) (h : zb4 fr v = some fr') (hv : zan μ v v') : zgf C μ dp cur fr' (b.finish v') := by
 obtain ⟨todo, tm, R⟩ := fr
 unfold zb4 at h
 cases todo with
 | nil => cases h
 | cons x k =>
  simp only [zal] at h; split at h
  case isFalse => cases h
  rename_i hm; have body := r.body
  rw [if_pos hm] at body; have rest := r.rest
  obtain ⟨fn, btmps, btodo, bdefers, bmode, bkind, bround⟩ := b
  simp only at body rest
  cases body with
  | plain a t =>
   cases a with
   | cons i l =>
    cases i with
    | ops all i hi =>
     simp only [zwo] at h; unfold zzh4 at h; split at h
     case h_2 => cases h
     rename_i o rest' ho
     cases h; obtain ⟨h1, h2⟩ := zed ho.symm
     have hlt : i < all.size := by have := (yad.1 h1).1; simpa using this
     have hr : (List.range all.size).drop i = i :: (List.range all.size).drop (i + 1) := by
      rw [yam (by simpa using hlt)]; simp
     have ho2 : all[i]? = some o := by simpa using h1
     have e : ∀ k', Frame.finish ⟨fn, btmps, .inRegion all ((List.range all.size).drop i) :: k', bdefers, bmode, bkind, bround⟩ v' = ⟨fn, (Act.put ⟨btmps, bdefers⟩ o.dst v').tmps, .inRegion all ((List.range all.size).drop (i + 1)) :: k', bdefers, bmode, bkind, bround⟩ := by
      intro k'; simp only [Frame.finish, hr, ho2, Option.bind_some]; unfold Act.put
      cases o.dst <;> rfl
     rw [e]; refine ⟨⟨rest.fn, ?_, rest.defers, rest.mode, rest.kind, rest.round⟩, ?_⟩
     ·exact (t.put (ds := bdefers) (dst := o.dst) hv).1
     ·rw [if_pos hm]
      rw [h2]; exact .plain (.cons (.ops all (i + 1) hlt) l) (t.put hv)
    | inRange l' i hl =>
     cases h; refine ⟨⟨rest.fn, rest.size, rest.defers, rest.mode, rest.kind, rest.round⟩, ?_⟩
     simp only [Frame.finish]; rw [if_pos hm]; exact .plain (.cons (.endRange l' i hl) l) t
    | beginRound =>
     cases h; refine ⟨⟨rest.fn, rest.size, rest.defers, rest.mode, rest.kind, rest.round⟩, ?_⟩
     simp only [Frame.finish]; rw [if_pos hm]; exact .plain l t
    | _ => cases h
  | mid a b c d e =>
   exfalso
   simp only [zwo] at h; unfold zzb0 at h; simp only [zad, zbn] at h; obtain ⟨o, ho, _⟩ := h
   have := (yad.1 ho).1
   simp at this
  | @wait all old _ olds st stages _ order _ _ anc D S a b b2 c d =>
   simp only [zwo] at h; unfold zzb0 at h; simp only [zad, zbn] at h; obtain ⟨o, ho, h⟩ := h
   cases h; have ho2 : all[st.heavy]? = some o := by simpa using ho
   obtain ⟨_, _, D1, D2, h1, h2, h3⟩ := zgr b b2
   obtain ⟨r1, r2⟩ := zzdl (ds := bdefers) h1 ho2 a c hv
   have e : ∀ k', Frame.finish ⟨fn, btmps, .inRegion all (st.heavy :: order) :: k', bdefers, bmode, bkind, bround⟩ v' = ⟨fn, (Act.put ⟨btmps, bdefers⟩ o.dst v').tmps, .inRegion all order :: k', bdefers, bmode, bkind, bround⟩ := by
    intro k'; simp only [Frame.finish, ho2, Option.bind_some]; unfold Act.put
    cases o.dst <;> rfl
   rw [e]; refine ⟨⟨rest.fn, r1.size, rest.defers, rest.mode, rest.kind, rest.round⟩, ?_⟩
   rw [if_pos hm]; exact .mid r1 h2 h3 r2 d
def zb8 (P : Program) (C : Ctx) (B N : Nat) (μ : Mu) (base : List Frame) (m : Machine) (w : World) : zho -> Prop
 | .next s => ∃ μ' b cs w', Steps P m (lone b (cs ++ base) w') /\ μ.lw μ' /\ Below N w w' /\ zbf B N μ' s.H w' /\ zgf C μ' s.cs.length (some s.H) s.fr b /\ Frs C μ' s.cs cs
 | .done v H => ∃ μ' b w' v', Steps P m (lone b base w') /\ μ.lw μ' /\ Below N w w' /\ zbf B N μ' H w' /\ zan μ' v v' /\ b.fn = C.root /\ b.leaving P w' (.returned v')
 | .fail _ => True
theorem zb8.of_steps {base : List Frame} {m m1 : Machine} {o : zho} {w w1 : World} (hs : Steps P m m1) (hm : μ.lw ν) (hb : Below N w w1) (h : zb8 P C B N ν base m1 w1 o) : zb8 P C B N μ base m w o := by
 cases o with
 | fail => exact trivial
 | next s =>
  obtain ⟨μ', b, cs, w', h1, h2, h3, h4⟩ := h
  exact ⟨μ', b, cs, w', hs.trans h1, fun a i k => h2 a i (hm a i k), hb.trans h3, h4⟩
 | done v H =>
  obtain ⟨μ', b, w', v', h1, h2, h3, h4⟩ := h
  exact ⟨μ', b, w', v', hs.trans h1, fun a i k => h2 a i (hm a i k), hb.trans h3, h4⟩
theorem zzgf {b : Frame} (h : b.mode = .run) : b.atR ⟨b.tmps, b.defers⟩ b.todo = b := by
 obtain ⟨fn, tmps, todo, defers, mode, kind, round⟩ := b
 simp only at h
 subst h; rfl
end
end Go.Am
namespace Go.Am
open Go Go.RowKit
structure Sim (P : Program) (C : Ctx) (B N : Nat) (I : World -> Prop) : Prop where
 tys : zc6 P C
 fns : zzv P C
 prims : zoq P C B N I
 base : B <= C.base
 mixed : P.follows .mixedOrders = true
 inv : ∀ w w', Below N w w' -> I w -> I w'
section
variable {P : Program} {C : Ctx} {B N : Nat} {I : World -> Prop} {μ ν : Mu} {H H' : zaf} {w : World} {tm : Tm} {R : zgv} {acs : List zap} {base cs : List Frame}
variable {b : Frame} {tmps : Array Value} {ds : List Deferred} {k : List zcj} {k' : List Item}
theorem zbq.todo {todo : List Item} (h : zbq μ R (b.atR ⟨tmps, ds⟩ [])) : zbq μ R (b.atR ⟨tmps, ds⟩ todo) := ⟨h.fn, h.size, h.defers, h.mode, h.kind, h.round⟩
theorem zbq.running {todo : List Item} (h : zbq μ R (b.atR ⟨tmps, ds⟩ todo)) : R.mode.running = true := by
 have := h.mode
 cases hm : R.mode with
 | run => rfl
 | _ => rw [hm] at this; exact this.elim
theorem zgq {m : Machine} {todo : List zcj} {btodo : List Item} (hH : zbf B N μ H w) (hcs : Frs C μ acs cs) (hR : zbq μ R (b.atR ⟨tmps, ds⟩ [])) (ht : zct μ R.n tm tmps)
  (hk : zex (zbj μ) todo btodo) (hs : Steps P m (lone (b.atR ⟨tmps, ds⟩ btodo) (cs ++ base) w)) : zb8 P C B N μ base m w (xGo todo tm R acs H) :=
 ⟨μ, _, cs, w, hs, fun _ _ h => h, Below.refl _ _, hH, ⟨hR.todo, by rw [if_pos hR.running]; exact .plain hk ht⟩, hcs⟩
theorem zv2 (hH : zbf B N μ H w) (hcs : Frs C μ acs cs) (hR : zbq μ R (b.atR ⟨tmps, ds⟩ [])) (ht : zct μ R.n tm tmps) (hk : zex (zbj μ) k k') {m : Machine}
  (hs : step P m = .next (lone (b.atR ⟨tmps, ds⟩ k') (cs ++ base) w)) : zb8 P C B N μ base m w (zz2 C k tm R acs H) :=
 zgq hH hcs hR ht hk (.one hs)
theorem zzkm (hH : zbf B N μ H w) (hcs : Frs C μ acs cs) (hR : zbq μ R (b.atR ⟨tmps, ds⟩ [])) (ht : zct μ R.n tm tmps) (hk : zex (zbj μ) k k') {c : Operand} {x y : Code} :
  zb8 P C B N μ base (lone (b.atR ⟨tmps, ds⟩ (.code (.cond c x y) :: k')) (cs ++ base) w) w (z7o c x y C k tm R acs H) := by
 unfold z7o
 cases hc : ob (ev c (.now tm)) zab.asBool with
 | none => exact trivial
 | some t =>
  rw [zad] at hc; obtain ⟨v, hv, ht'⟩ := hc
  have : v = .bool t := by cases v <;> simp [zab.asBool] at ht'; rw [ht']
  subst this; have hr := ht.erel (ds := ds) hH.glob c _ hv
  rw [zan] at hr; refine zgq hH hcs hR ht (.cons (.code _) hk) (.one ?_)
  rw [stepR_cond hr]
  cases t <;> rfl
theorem zzgc (hH : zbf B N μ H w) (hcs : Frs C μ acs cs) (hR : zbq μ R (b.atR ⟨tmps, ds⟩ [])) (ht : zct μ R.n tm tmps) (hk : zex (zbj μ) k k') {id : Nat} {c : Code} :
  zb8 P C B N μ base (lone (b.atR ⟨tmps, ds⟩ (.code (.block id c) :: k')) (cs ++ base) w) w (zzgr id c C k tm R acs H) :=
 zgq hH hcs hR ht (.cons (.code _) (.cons (.inBlock _) hk)) (.one stepR_block)
theorem zzji (hH : zbf B N μ H w) (hcs : Frs C μ acs cs) (hR : zbq μ R (b.atR ⟨tmps, ds⟩ [])) (ht : zct μ R.n tm tmps) (hk : zex (zbj μ) k k') {c : Code} :
  zb8 P C B N μ base (lone (b.atR ⟨tmps, ds⟩ (.code (.loop c) :: k')) (cs ++ base) w) w (zzif c C k tm R acs H) :=
 zgq hH hcs hR ht (.cons (.code _) (.cons (.inLoop _) hk)) (.one stepR_loop)
theorem zzb1 {id : Nat} : ∀ {k : List zcj} {k' : List Item} {r : List zcj}, zex (zbj μ) k k' -> zec id k = some r -> ∃ r', exitTo id k' = some r' /\ zex (zbj μ) r r' := by
 intro k k' r h; induction h with
 | nil => intro e; cases e
 | cons a l ih =>
  intro e
  cases a with
  | inBlock i =>
   unfold zec at e; simp only [zcj.blockId] at e; rw [zal] at e; unfold exitTo; by_cases hi : i = id
   ·subst hi
    rw [if_pos (zcy.2 rfl)] at e
    cases e
    exact ⟨_, by simp, l⟩
   ·rw [if_neg fun h => hi (zcy.1 h)] at e
    obtain ⟨r', h1, h2⟩ := ih e
    exact ⟨r', by simp [hi, h1], h2⟩
  | _ =>
   unfold zec at e; obtain ⟨r', h1, h2⟩ := ih e
   exact ⟨r', by unfold exitTo; exact h1, h2⟩
end
end Go.Am
namespace Go.Am
open Go Go.RowKit
section
variable {P : Program} {C : Ctx} {B N : Nat} {I : World -> Prop} {μ ν : Mu} {H H' : zaf} {w : World} {tm : Tm} {R : zgv} {acs : List zap} {base cs : List Frame}
variable {b : Frame} {tmps : Array Value} {ds : List Deferred} {k : List zcj} {k' : List Item} {all : Array Oper} {olds : List (Nat × List Nat)} {anc : Tr Nat} {old : Tm} {D : Nat} {S : Nat -> Bool} {order : List Nat}
theorem zbq.slots {tmps' : Array Value} {todo : List Item} (h : zbq μ R (b.atR ⟨tmps, ds⟩ todo)) (hs : tmps'.size = R.n) : zbq μ R (b.atR ⟨tmps', ds⟩ todo) := ⟨h.fn, hs, h.defers, h.mode, h.kind, h.round⟩
theorem zct.cut {n : Nat} (h : zct μ n tm tmps) : zct μ n tm.cut tmps := by
 refine ⟨h.1, fun i v hv => h.2 i v ?_⟩
 unfold Tm.cut Tm.get at hv; unfold Tm.get; simp only [zns] at hv ⊢
 split at hv
 ·rename_i e; rw [if_pos e]; exact hv
 ·cases hv
theorem z9e (hS : Sim P C B N I) (hH : zbf B N μ H w) (hcs : Frs C μ acs cs) (hR : zbq μ R (b.atR ⟨tmps, ds⟩ [])) (hk : zex (zbj μ) k k')
  (hr : zb3 μ all olds anc R.n old tm D S order tmps) (hst : zb2 all.toList anc [] D = true) (hp : zbz C μ acs.length H all olds R.n old tm D S) :
  zb8 P C B N μ base (lone (b.atR ⟨tmps, ds⟩ (.inRegion all order :: k')) (cs ++ base) w) w (zz2 C k tm R acs H) := by
 obtain ⟨tmps', μ', w', s, g, t⟩ := regEnd (b := b) (k := k') (cs := cs ++ base) (ds := ds) hS.tys hst order S tmps μ w hH hr hp
 refine zb8.of_steps s g.le g.below ?_
 exact zgq g.heap (hcs.monoD fun d hd => g.pd d (by omega)) ((hR.mono g.le).slots t.1) t (hk.mono fun _ _ r => r.mono g.le) (.refl _ _)
theorem zzki (hS : Sim P C B N I) (hH : zbf B N μ H w) (hcs : Frs C μ acs cs) (hR : zbq μ R (b.atR ⟨tmps, ds⟩ [])) (ht : zct μ R.n tm tmps) (hk : zex (zbj μ) k k') {id : Nat} :
  zb8 P C B N μ base (lone (b.atR ⟨tmps, ds⟩ (.code (.region id all true) :: k')) (cs ++ base) w) w (z7n id all C k tm R acs H) := by
 unfold z7n
 cases hx : ob (ob (C.plans.get R.fn) fun t => t.get id) fun p => zaj (zjt all p) <| ob (zfh C H all R.n tm.cut p.olds p.first tm.cut) fun tm' => some (⟨⟨.reg all tm.cut p.olds p.stages :: k, tm', R⟩, acs, H⟩ : zh5) with
 | none => exact trivial
 | some s =>
  simp only [zad, zae] at hx; obtain ⟨p, _, hok, tm', hl, hx⟩ := hx
  cases hx; obtain ⟨anc, D, ro, h1, h2⟩ := z93 hok
  obtain ⟨r0, p0⟩ := zzed (C := C) (H := H) (dp := acs.length) hS.mixed ro ht.cut (w.tape w.drawn (.order b.fn id))
  obtain ⟨r1, p1⟩ := zkp _ _ _ hl h1 r0 p0
  exact ⟨μ, _, cs, _, .one stepR_region_draw, fun _ _ h => h, (Below.refl N w).drew, hH.drew, ⟨hR.todo, by rw [if_pos hR.running]; exact .reg r1 h2 p1 hk⟩, hcs⟩
theorem zzam (hH : zbf B N μ H w) (hcs : Frs C μ acs cs) (hR : zbq μ R (b.atR ⟨tmps, ds⟩ [])) (hk : zex (zbj μ) k k') {st : zcz} {stages : List zcz} {D2 : Nat}
  (hr : zb3 μ all olds anc R.n old tm D S order tmps) (h1 : zdj all.toList st.lights D = some D2) (h2 : zb2 all.toList anc stages D2 = true) (hw : zig C μ acs.length all olds R.n old tm D S st.again) :
  zb8 P C B N μ base (lone (b.atR ⟨tmps, ds⟩ (.inRegion all order :: k')) (cs ++ base) w) w (zqg all old olds st stages C k tm R acs H) := by
 unfold zqg
 cases hx : zaj (zph C H all old olds tm st.again) (ob (zfh C H all R.n old olds st.lights tm) fun tm => some (⟨⟨.reg all old olds stages :: k, tm, R⟩, acs, H⟩ : zh5)) with
 | none => exact trivial
 | some s =>
  simp only [zad, zae] at hx; obtain ⟨ha, tm', hl, hx⟩ := hx
  cases hx; obtain ⟨r1, p1⟩ := zkp _ _ _ hl h1 hr (z7s hw ha)
  exact ⟨μ, _, cs, w, .refl _ _, fun _ _ h => h, Below.refl N w, hH, ⟨hR.todo, by rw [if_pos hR.running]; exact .reg r1 h2 p1 hk⟩, hcs⟩
theorem zx0 (hH : zbf B N μ H w) (hcs : Frs C μ acs cs) (hR : zbq μ R (b.atR ⟨tmps, ds⟩ [])) (ht : zct μ R.n tm tmps) {m : Machine} {todo : List zcj} {btodo : List Item}
  (hs : Steps P m (lone { b.atR ⟨tmps, ds⟩ btodo with mode := .returning } (cs ++ base) w)) : zb8 P C B N μ base m w (.next ⟨zq1 ⟨todo, tm, R⟩ .returning, acs, H⟩) :=
 ⟨μ, _, cs, w, hs, fun _ _ h => h, Below.refl N w, hH, ⟨⟨hR.fn, hR.size, hR.defers, trivial, hR.kind, hR.round⟩, ht⟩, hcs⟩
theorem zkl {dst : Option Tmp} {v : Value} : Act.put ⟨tmps, ds⟩ dst v = ⟨(Act.put ⟨tmps, ds⟩ dst v).tmps, ds⟩ := by unfold Act.put; cases dst <;> rfl
theorem znu {i : Nat} {rest : List Nat} {o : Oper} {v : zab} {cs : List Frame} (ho : all[i]? = some o) (hw : Region.wanted o (yielded all tmps) = true) (hd : ∀ c, o.op ≠ .defer c)
  (h : z2o P B N μ w (Act.eval ⟨tmps, ds⟩) o v H') :
  ∃ v' w' μ', step P (lone (b.atR ⟨tmps, ds⟩ (.inRegion all (i :: rest) :: k')) cs w) = .next (lone (b.atR ⟨(Act.put ⟨tmps, ds⟩ o.dst v').tmps, ds⟩ (.inRegion all rest :: k')) cs w') ∧
   μ.le μ' /\ zbf B N μ' H' w' /\ Below N w w' /\ zan μ' v v' := by
 obtain ⟨v', w', μ', h1, h2, h3, h4, h5⟩ := h
 refine ⟨v', w', μ', ?_, h2, h3, h4, h5⟩
 rw [<- zkl]; rcases h1 with h1 | ⟨h1, rfl⟩
 ·exact zlt (a := ⟨tmps, ds⟩) ho hw (by rw [Oper.semAt_eq _ _ _ hd]; exact h1)
 ·exact zvi (a := ⟨tmps, ds⟩) ho hw (by rw [Oper.semAt_eq _ _ _ hd]; exact h1)
theorem zqx {i : Nat} {rest : List Nat} {o : Oper} {f : FuncId} {args : Array Value} {cs : List Frame} {w' : World} (ho : all[i]? = some o) (hw : Region.wanted o (yielded all tmps) = true) (hd : ∀ c, o.op ≠ .defer c)
  (h : (execOp (Act.eval ⟨tmps, ds⟩) o).run P w = .ok (.enter f args) w') :
  step P (lone (b.atR ⟨tmps, ds⟩ (.inRegion all (i :: rest) :: k')) cs w) = .next (lone (Frame.enter P f args .normal) (b.atR ⟨tmps, ds⟩ (.inRegion all (i :: rest) :: k') :: cs) w') :=
 step_lone_go (by
  rw [stepGR_op (a := ⟨tmps, ds⟩) ho hw, Oper.semAt_eq _ _ _ hd]
  simp [stepG.apply, Sem.runT_eq, h, Frame.atR])
theorem zuz {i : Nat} {rest : List Nat} {o : Oper} {f : FuncId} {args : Array Value} {cs : List Frame} (ho : all[i]? = some o) (hw : Region.wanted o (yielded all tmps) = true) (hd : ∀ c, o.op ≠ .defer c)
  (h : (execOp (Act.eval ⟨tmps, ds⟩) o).run P w = .ok (.enter f args) w) {R : Value -> World -> Prop} (hc : Calls P f args w fun e w' => ∃ v', e = .returned v' /\ R v' w') :
  ∃ v' w', Steps P (lone (b.atR ⟨tmps, ds⟩ (.inRegion all (i :: rest) :: k')) cs w) (lone (b.atR ⟨(Act.put ⟨tmps, ds⟩ o.dst v').tmps, ds⟩ (.inRegion all rest :: k')) cs w') /\ R v' w' := by
 obtain ⟨e, w', fr, ⟨v', rfl, h1⟩, h3, _, h5⟩ := hc (b.atR ⟨tmps, ds⟩ (.inRegion all (i :: rest) :: k') :: cs)
 refine ⟨v', w', ?_, h1⟩
 refine .head (zqx ho hw hd h) (Steps.trans h3 (.one ?_))
 rw [step_leave_returned h5, Frame.finish_atR, ho, <- zkl]; rfl
theorem zbf.below {w' : World} (hH : zbf B N μ H w) (hb : Below w.heap.size w w') : zbf B N μ H w' := by
 refine ⟨hH.base, hH.glob, hH.low, hH.next, Nat.le_trans hH.size hb.size, hH.fresh, fun a x i hx h1 => ?_, fun a i ha hi => ?_, hH.inj, hH.pnd⟩
 ·obtain ⟨o, h2, h3⟩ := hH.blk a x i hx h1
  have hlt : i.b < w.heap.size := (yaf.1 h2).1
  exact ⟨o, by rw [hb.block _ hlt]; exact h2, h3⟩
 ·obtain ⟨h1, h2, h3⟩ := hH.own a i ha hi
  exact ⟨h1, Nat.lt_of_lt_of_le h2 hb.size, h3⟩
theorem zfc {g : List zab -> zaf -> Option zab} {f : FuncId} {al : List zab} {args' : Array Value} {v : zab} {H' : zaf} (hv : zk2 g al H = some (v, H')) (hH : zbf B N μ H w)
  (k : g al H = some v -> (callFunc f args').run P w = .ok (.enter f args') w /\ Calls P f args' w fun e w' => ∃ v', e = .returned v' /\ zan μ v v' /\ Below w.heap.size w w') :
  (H' = H /\ ∃ v', (callFunc f args').run P w = .ok (.value v') w /\ zan μ v v') ∨
   ((callFunc f args').run P w = .ok (.enter f args') w /\ Calls P f args' w fun e w' => ∃ v' μ', e = .returned v' /\ μ.le μ' /\ zbf B N μ' H' w' /\ Below N w w' /\ zan μ' v v') := by
 unfold zk2 at hv; rw [zad] at hv; obtain ⟨u, h1, h2⟩ := hv
 cases h2; obtain ⟨h3, h4⟩ := k h1
 exact .inr ⟨h3, h4.mono fun e w' hh => by obtain ⟨v', g1, g2, g3⟩ := hh; exact ⟨v', μ, g1, μ.le_refl, hH.below g3, g3.mono hH.size, g2⟩⟩
theorem zct.wanted {n : Nat} (R : zct μ n tm tmps) {o : Oper} {w : Bool} (h : zbb o.guard all tm = some w) : Region.wanted o (yielded all tmps) = w := by
 unfold zbb z7t at h; unfold Region.wanted
 cases hg : o.guard with
 | none => rw [hg] at h; cases h; rfl
 | some jw =>
  obtain ⟨j, want⟩ := jw
  rw [hg] at h; simp only [zxc, zad, zbn] at h; obtain ⟨d, ⟨u, hu, hud⟩, v, hv, h⟩ := h
  have hu' : all[j]? = some u := by simpa using hu
  have hy : yielded all tmps j = match tmps[d]? with | some (.bool b) => some b | _ => none := by
   unfold yielded; rw [hu']; simp [hud]
   rfl
  simp only []; rw [hy]; have rel := R.2 d v hv
  by_cases hd : d < n
  ·have hs : d < tmps.size := by rw [R.1]; exact hd
   have e1 : tmps[d]? = some (tmps.getD d undef) := by simp [Array.getD, hs]
   rw [e1]; generalize tmps.getD d undef = x at rel
   cases hb : v.asBool with
   | some b =>
    rw [hb] at h; have : v = .bool b := by cases v <;> simp [zab.asBool] at hb; rw [hb]
    rw [this, zan] at rel; subst rel; simp only [Option.some.injEq] at h; rw [<- h, znh]
    cases b <;> cases want <;> rfl
   | none =>
    rw [hb] at h
    cases h
    cases x with
    | bool b => rw [zxd rel] at hb; cases hb
    | _ => rfl
  ·have e1 : tmps[d]? = none := by simp [R.1]; omega
   rw [e1]; rw [zkt (by rw [R.1]; omega)] at rel
   cases hb : v.asBool with
   | some b =>
    have : v = .bool b := by cases v <;> simp [zab.asBool] at hb; rw [hb]
    rw [this, zan] at rel
    cases rel
   | none => rw [hb] at h; cases h; rfl
theorem z00 {fr : zap} {c : Frame} {w' : World} {v : zab} {v' : Value} {m : Machine} (hw : zgf C μ acs.length none fr c) (hcs : Frs C μ acs cs) (hm : μ.le ν) (hH : zbf B N ν H' w') (hb : Below N w w') (hv : zan ν v v')
  (hs : Steps P m (lone (c.finish v') (cs ++ base) w')) : zb8 P C B N μ base m w (zzi7 v H' C fr acs H) := by
 unfold zzi7
 cases hx : ob (zb4 fr v) fun fr => some (⟨fr, acs, H'⟩ : zh5) with
 | none => exact trivial
 | some s =>
  rw [zad] at hx; obtain ⟨fr', hf, hx⟩ := hx
  cases hx; exact ⟨ν, _, cs, w', hs, hm, hb, hH, zhf (hw.mono hm) hf hv, hcs.mono hm⟩
theorem zm8 {dp : Nat} (hF : zzv P C) {f : Nat} {args : List zab} {args' : Array Value} {d : Bool} {g : zap} {cur : Option zaf} (h : zfl C f args d = some g) (hl : zbk μ args args'.toList) :
  zgf C μ dp cur g (Frame.enter P f args' (if d then .deferred else .normal)) /\ ∃ fn, C.fns.get f = some fn /\ fn.body.isSome = true := by
 unfold zfl at h; simp only [zad, zae, yac, zh2] at h; obtain ⟨fn, hfn, c, hc, k, hk, ⟨h1, h2⟩, h3⟩ := h
 cases h3; obtain ⟨h4, _⟩ := hF f fn hfn
 have hsz : args'.size = args.length := by have := hl.length; simpa using this
 rw [za1] at h1 h2; have size : (Frame.enter P f args' (if d then .deferred else .normal)).tmps.size = fn.ntmps := by
  simp only [Frame.enter, h4, Option.map_some, Option.getD_some, Array.size_append, Array.size_replicate]; omega
 refine ⟨⟨⟨rfl, size, .nil, trivial, rfl, trivial⟩, ?_⟩, fn, hfn, by rw [hc]; rfl⟩
 show zdw C μ dp fn.ntmps cur [.code c] ⟨k, Tr.ofList args, []⟩ (Frame.enter P f args' (if d then .deferred else .normal)).todo (Frame.enter P f args' (if d then .deferred else .normal)).tmps
 have todo : (Frame.enter P f args' (if d then .deferred else .normal)).todo = [.code c] := by simp [Frame.enter, h4, hc]
 rw [todo]; refine .plain (.cons (.code c) .nil) ⟨size, fun i v hv => ?_⟩
 unfold Tm.get at hv; simp only [zns] at hv; split at hv
 ·rw [Tr.get_ofList] at hv
  obtain ⟨x, hx, hr⟩ := hl.get hv
  have hi : i < args'.size := by have := (yad.1 hx).1; simpa using this
  have : (Frame.enter P f args' (if d then .deferred else .normal)).tmps.getD i undef = x := by
   simp only [Frame.enter, yby]; rw [Array.getElem?_append_left hi]; have : args'[i]? = some x := by simpa using hx
   rw [this]; rfl
  rw [this]; exact hr
 ·cases hv
theorem z9q (hF : zzv P C) {fr : zap} {c : Frame} {f : Nat} {args : List zab} {m : Machine} (hw : zgf C μ acs.length none fr c) (hcs : Frs C μ acs cs) (hH : zbf B N μ H w)
  (hs : ∀ fn, C.fns.get f = some fn -> fn.body.isSome = true -> ∃ args', zbk μ args args'.toList /\ Steps P m (lone (Frame.enter P f args' .normal) (c :: (cs ++ base)) w)) :
  zb8 P C B N μ base m w (zx4 f args C fr acs H) := by
 unfold zx4
 cases hx : zfl C f args false with
 | none => exact trivial
 | some g =>
  obtain ⟨fn, h1, h2⟩ : ∃ fn, C.fns.get f = some fn /\ fn.body.isSome = true := by
   unfold zfl at hx; simp only [zad] at hx; obtain ⟨fn, hfn, c, hc, _⟩ := hx
   exact ⟨fn, hfn, by rw [hc]; rfl⟩
  obtain ⟨args', h3, h4⟩ := hs fn h1 h2
  exact ⟨μ, _, c :: cs, w, h4, fun _ _ h => h, Below.refl N w, hH, (zm8 hF hx h3).1, .cons hw hcs⟩
end
end Go.Am
namespace Go.Am
open Go Go.RowKit
theorem zur : ∀ (l : List Oper) (t : Tr zab) (i : Nat) (v : zab), (zuv l t).get i = some v -> t.get i = some v /\ ∀ o ∈ l, o.dst ≠ some i := by
 intro l; induction l with
 | nil => intro t i v h; exact ⟨h, fun _ ho => by cases ho⟩
 | cons o l ih =>
  intro t i v h; unfold zuv at h
  cases hd : o.dst with
  | none =>
   rw [hd] at h; obtain ⟨h1, h2⟩ := ih t i v h
   refine ⟨h1, fun u hu => ?_⟩
   rcases yat.1 hu with rfl | hu
   ·rw [hd]; simp
   ·exact h2 u hu
  | some j =>
   rw [hd] at h; obtain ⟨h1, h2⟩ := ih _ i v h
   rw [Tr.get_del] at h1; split at h1
   ·cases h1
   ·rename_i e
    refine ⟨h1, fun u hu => ?_⟩
    rcases yat.1 hu with rfl | hu
    ·rw [hd]; exact fun k => e (ybj k).symm
    ·exact h2 u hu
theorem zb3.left {μ : Mu} {all : Array Oper} {olds : List (Nat × List Nat)} {anc : Tr Nat} {n : Nat} {old tm : Tm} {D : Nat} {S : Nat -> Bool} {order : List Nat} {tmps : Array Value} (R : zb3 μ all olds anc n old tm D S order tmps) :
  zct μ n ⟨tm.k, zuv all.toList tm.v, []⟩ tmps := by
 refine ⟨R.size, fun t v hv => ?_⟩
 unfold Tm.get at hv; simp only [zns] at hv; split at hv
 case isFalse => cases hv
 rename_i hk; obtain ⟨h1, h2⟩ := zur _ _ _ _ hv
 have hv : tm.get t = some v := by unfold Tm.get; simp only [zns]; rw [if_pos hk]; exact h1
 have hw : ∀ (i : Nat) (o : Oper), all[i]? = some o -> o.dst = some t -> False := fun i o ho hd => h2 o (by
  have : all.toList[i]? = some o := by simpa using ho
  exact ybw this) hd
 by_cases hn : t < n
 ·have k := R.keep t hn fun i o a b => (hw i o a b).elim
  exact R.past t v hn (fun i o a b => (hw i o a b).elim) (by rw [<- k]; exact hv)
 ·rw [zkt (by rw [R.size]; omega)]
  exact R.big t v (by omega) (.inl hv)
theorem zdw.left {C : Ctx} {μ : Mu} {dp n : Nat} {cur : Option zaf} {todo : List zcj} {tm : Tm} {btodo : List Item} {tmps : Array Value} (h : zdw C μ dp n cur todo tm btodo tmps) : zct μ n (zyp todo tm) tmps := by
 cases h with
 | plain a t =>
  cases a with
  | nil => exact t
  | cons x l => cases x <;> exact t
 | reg a _ _ _ => exact a.left
 | mid a _ _ _ _ => exact a.left
 | wait a _ _ _ _ => exact a.left
theorem zex.append {α β : Type} {R : α -> β -> Prop} {l l' : List α} {m m' : List β} (h : zex R l m) (h' : zex R l' m') : zex R (l ++ l') (m ++ m') := by
 induction h with
 | nil => exact h'
 | cons a _ ih => exact .cons a ih
theorem zct.left {μ : Mu} {n : Nat} {tm : Tm} {tmps : Array Value} (h : zct μ n tm tmps) (todo : List zcj) : zct μ n (zyp todo tm) tmps := by
 unfold zyp; split
 ·refine ⟨h.1, fun t v hv => h.2 t v ?_⟩
  unfold Tm.get at hv ⊢
  simp only [zns] at hv ⊢
  split at hv
  ·rename_i e; rw [if_pos e]; exact (zur _ _ _ _ hv).1
  ·cases hv
 ·exact h
theorem z3f {C : Ctx} {μ : Mu} {dp : Nat} {cur cur' : Option zaf} {fr : zap} {b : Frame} {l : List zpk} {l' : List PanicEntry} (h : zgf C μ dp cur fr b) (hl : zex (zh4 μ) l l') : zgf C μ dp cur' (z3h fr l) (b.raise l') := by
 have t : zct μ fr.R.n (zyp fr.todo fr.tm) b.tmps := by
  have := h.body
  split at this
  ·exact this.left
  ·exact this.left _
 have r := h.rest
 obtain ⟨todo, tm, fn, n, defers, mode, deferred, round⟩ := fr
 obtain ⟨bfn, btmps, btodo, bdefers, bmode, bkind, bround⟩ := b
 have m := r.mode
 cases mode <;> cases bmode <;> first | exact m.elim | skip
 ·exact ⟨⟨r.fn, r.size, r.defers, hl, r.kind, r.round⟩, t⟩
 ·exact ⟨⟨r.fn, r.size, r.defers, hl, r.kind, r.round⟩, t⟩
 ·refine ⟨⟨r.fn, r.size, r.defers, ?_, r.kind, r.round⟩, t⟩
  show zex (zh4 μ) (ze3 l _) _
  rw [zb7]; exact hl.append m
end Go.Am
namespace Go.Am
open Go Go.RowKit
section
variable {P : Program} {C : Ctx} {B N : Nat} {I : World -> Prop} {μ ν : Mu} {H H' : zaf} {w : World} {tm : Tm} {R : zgv} {acs : List zap} {base cs : List Frame}
variable {b : Frame} {tmps : Array Value} {ds : List Deferred} {k : List zcj} {k' : List Item} {all : Array Oper}
theorem z9p {fr : zap} {c : Frame} {v : zab} {v' : Value} {m : Machine} {cur : Option zaf} (hw : zgf C μ acs.length cur fr c) (hcs : Frs C μ acs cs) (hH : zbf B N μ H w) (hv : zan μ v v')
  (hs : Steps P m (lone (c.raise [{ v := v', recovered := false }]) (cs ++ base) w)) : zb8 P C B N μ base m w (zzhe v C fr acs H) :=
 ⟨μ, _, cs, w, hs, fun _ _ h => h, Below.refl N w, hH, z3f hw (.cons ⟨hv, rfl, rfl⟩ .nil), hcs⟩
theorem z0n {i : Nat} {rest : List Nat} {o : Oper} {v : Value} {cs : List Frame} {w' : World} (ho : all[i]? = some o) (hw : Region.wanted o (yielded all tmps) = true) (hd : ∀ c, o.op ≠ .defer c)
  (h : (execOp (Act.eval ⟨tmps, ds⟩) o).run P w = .halt (.panic v) w') :
  step P (lone (b.atR ⟨tmps, ds⟩ (.inRegion all (i :: rest) :: k')) cs w) = .next (lone ((b.atR ⟨tmps, ds⟩ (.inRegion all (i :: rest) :: k')).raise [{ v, recovered := false }]) cs w') :=
 step_lone_go (by
  rw [stepGR_op (a := ⟨tmps, ds⟩) ho hw, Oper.semAt_eq _ _ _ hd]
  simp [stepG.apply, Sem.runT_eq, h])
theorem zj6 (hH : zbf B N μ H w) {l : Nat} {r : zk5} (h : zd7 H l = some r) {i : BI} (h4 : μ l = some i) : B <= l /\ ∃ r', H.t.get l = some (.loop r) /\ w.heap[i.b]? = some (.loop r') /\ zs1 μ r r' := by
 unfold zd7 at h; rw [zae, zh2, zad] at h; obtain ⟨h1, x, h2, h3⟩ := h
 have : x = .loop r := by cases x <;> simp [zak.asLoop] at h3; rw [h3]
 subst this; obtain ⟨o, h5, h6⟩ := hH.blk l _ i h2 h4
 rw [znt] at h6; obtain ⟨r', rfl, h7⟩ := h6
 refine ⟨Nat.le_of_not_lt fun hlt => ?_, r', h2, h5, h7⟩
 have := (hH.low l _ i hlt h2 h4).2.1
 cases this
theorem zg5 {l : Nat} {r : Loop} (h : w.heap[l]? = some (.loop r)) : (Instr.getLoop l).run P w = .ok r w := by
 simp [Instr.getLoop, getObj, Sem.run_bind, Sem.run, h]
theorem zzo {o : Op} (h : ∃ c, o = .defer c) (C : Ctx) (e : Env) (H : zaf) : (aop o).f C e H = .fail \/ ∃ d, (aop o).f C e H = .defer d := by
 obtain ⟨c, rfl⟩ := h
 show (zp6 c c.callee).f C e H = .fail \/ ∃ d, (zp6 c c.callee).f C e H = .defer d
 cases c.callee with
 | value f =>
  show zzhb (ob (zfb f c.args e) fun p => some (.defer ⟨some p.1, 0, ze3 p.2.1 p.2.2⟩)) = .fail \/ ∃ d, zzhb (ob (zfb f c.args e) fun p => some (.defer ⟨some p.1, 0, ze3 p.2.1 p.2.2⟩)) = .defer d
  cases zfb f c.args e with
  | none => exact .inl rfl
  | some p => exact .inr ⟨_, rfl⟩
 | _ => exact .inl rfl
theorem zxs {n : Nat} : ∀ (ps : List Nat) (args : List zab) (tm tm' : Tm) (args' : List Value) (tmps : Array Value), zeg n ps args tm = some tm' -> zbk μ args args' -> zct μ n tm tmps →
  args'.length = ps.length /\ zct μ n tm' ((ps.zip args').foldl (fun tmps x => tmps.setIfInBounds x.1 x.2) tmps) := by
 intro ps; induction ps with
 | nil =>
  intro args tm tm' args' tmps h hl ht
  cases args with
  | nil => rw [zbk] at hl; subst hl; cases h; exact ⟨rfl, ht⟩
  | cons a as => cases h
 | cons p ps ih =>
  intro args tm tm' args' tmps h hl ht
  cases args with
  | nil => cases h
  | cons a as =>
   rw [zbk] at hl; obtain ⟨v, r, rfl, hv, hl⟩ := hl
   have := ih as _ _ r (tmps.setIfInBounds p v) h hl (ht.put (ds := []) (dst := some p) hv)
   exact ⟨by simp [this.1], this.2⟩
theorem z0m {i : Nat} {rest : List Nat} {o : Oper} {cs : List Frame} {l : Nat} {f : FuncId} {t : Array Value} {as bd : Code} {w' : World} (ho : all[i]? = some o) (hw : Region.wanted o (yielded all tmps) = true) (hd : ∀ c, o.op ≠ .defer c)
  (h : (execOp (Act.eval ⟨tmps, ds⟩) o).run P w = .ok (.round l f t as bd) w') :
  step P (lone (b.atR ⟨tmps, ds⟩ (.inRegion all (i :: rest) :: k')) cs w) = .next (lone (Frame.round l f t as bd .normal) (b.atR ⟨tmps, ds⟩ (.inRegion all (i :: rest) :: k') :: cs) w') :=
 step_lone_go (by
  rw [stepGR_op (a := ⟨tmps, ds⟩) ho hw, Oper.semAt_eq _ _ _ hd]
  simp [stepG.apply, Sem.runT_eq, h, Frame.atR])
theorem z0o {i : Nat} {rest : List Nat} {o : Oper} {cs : List Frame} {d : Deferred} {w' : World} (ho : all[i]? = some o) (hw : Region.wanted o (yielded all tmps) = true) (hb : b.roundOf = none)
  (h : (execOp (Act.eval ⟨tmps, ds⟩) o).run P w = .ok (.defer d) w') :
  step P (lone (b.atR ⟨tmps, ds⟩ (.inRegion all (i :: rest) :: k')) cs w) = .next (lone ((b.atR ⟨tmps, d :: ds⟩ (.inRegion all (i :: rest) :: k')).finish undef) cs w') :=
 step_lone_go (by
  rw [stepGR_op (a := ⟨tmps, ds⟩) ho hw, hb, Oper.semAt_none]
  simp [stepG.apply, Sem.runT_eq, h, Frame.atR])
theorem zvj {i : Nat} {rest : List Nat} {o : Oper} {cs : List Frame} {w' : World} (ho : all[i]? = some o) (hw : Region.wanted o (yielded all tmps) = true) (hd : ∀ c, o.op ≠ .defer c) (hb : b.roundOf = none)
  (h : (execOp (Act.eval ⟨tmps, ds⟩) o).run P w = .ok .recover w') :
  step P (lone (b.atR ⟨tmps, ds⟩ (.inRegion all (i :: rest) :: k')) cs w) = .next (match tryRecover (b.atR ⟨tmps, ds⟩ (.inRegion all (i :: rest) :: k')) cs with
   | some (v, cs) => lone ((b.atR ⟨tmps, ds⟩ (.inRegion all (i :: rest) :: k')).finish v) cs w'
   | none => lone ((b.atR ⟨tmps, ds⟩ (.inRegion all (i :: rest) :: k')).finish .nilIface) cs w') := by
 have e : (stepG P true { frame := b.atR ⟨tmps, ds⟩ (.inRegion all (i :: rest) :: k'), callers := cs, status := .running, dying := none } w).bare = match tryRecover (b.atR ⟨tmps, ds⟩ (.inRegion all (i :: rest) :: k')) cs with
   | some (v, cs) => .go { frame := (b.atR ⟨tmps, ds⟩ (.inRegion all (i :: rest) :: k')).finish v, callers := cs, status := .running, dying := none } w'
   | none => .go { frame := (b.atR ⟨tmps, ds⟩ (.inRegion all (i :: rest) :: k')).finish .nilIface, callers := cs, status := .running, dying := none } w' := by
  rw [stepGR_op (a := ⟨tmps, ds⟩) ho hw, Oper.semAt_eq _ _ _ hd]
  have hb' : (b.atR ⟨tmps, ds⟩ (.inRegion all (i :: rest) :: k')).roundOf = none := hb
  simp only [stepG.apply, Sem.runT_eq, h, GStep.bare_after, hb', if_true]
  cases tryRecover (b.atR ⟨tmps, ds⟩ (.inRegion all (i :: rest) :: k')) cs with
  | none => rfl
  | some p => obtain ⟨v, c⟩ := p; rfl
 cases ht : tryRecover (b.atR ⟨tmps, ds⟩ (.inRegion all (i :: rest) :: k')) cs with
 | none => rw [ht] at e; exact step_lone_go e
 | some p => obtain ⟨v, c⟩ := p; rw [ht] at e; exact step_lone_go e
theorem z9o {fr : zap} {c : Frame} {l : Nat} {i : BI} {args : List zab} {args' : Array Value} {m : Machine} (hw : zgf C μ acs.length none fr c) (hcs : Frs C μ acs cs) (hH : zbf B N μ H w) (hi : μ l = some i) (hl : zbk μ args args'.toList)
  (hs : ∀ f t as bd, (Instr.yield i.b args').run P w = .ok (.round i.b f t as bd) w -> Steps P m (lone (Frame.round i.b f t as bd .normal) (c :: (cs ++ base)) w)) : zb8 P C B N μ base m w (zx3 l args C fr acs H) := by
 unfold zx3
 cases hx : ob (zd7 H l) fun r => ob (zeg r.n r.params args r.tm) fun tm => some (⟨⟨[.code r.assign, .beginRound, .code r.body], tm, ⟨r.fn, r.n, [], .run, false, some l⟩⟩, fr :: acs, H⟩ : zh5) with
 | none => exact trivial
 | some s =>
  simp only [zad] at hx; obtain ⟨r, hr, tm', htm, hx⟩ := hx
  cases hx; obtain ⟨_, r', _, h3, h4⟩ := zj6 hH hr hi
  obtain ⟨h5, h6⟩ := zxs r.params args r.tm tm' args'.toList r'.tmps htm hl h4.tm
  rw [<- h4.params] at h5 h6; have sz : args'.size = r'.params.size := by simpa using h5
  have e : (r'.params.zip args').foldl (fun tmps x => tmps.setIfInBounds x.1 x.2) r'.tmps = (r'.params.toList.zip args'.toList).foldl (fun tmps x => tmps.setIfInBounds x.1 x.2) r'.tmps := by
   rw [<- Array.foldl_toList, Array.toList_zip]
  rw [<- e] at h6; refine ⟨μ, _, c :: cs, w, hs r'.fn ((r'.params.zip args').foldl (fun tmps x => tmps.setIfInBounds x.1 x.2) r'.tmps) r'.assign r'.body ?_, fun _ _ h => h, Below.refl N w, hH, ?_, .cons hw hcs⟩
  ·simp only [Instr.yield, Sem.run_bind, zg5 h3, Result.andThen_ok, sz]
   simp
  ·refine ⟨⟨h4.fn, h6.1, .nil, trivial, rfl, ⟨i, hi, rfl⟩⟩, ?_⟩
   show zdw C μ (acs.length + 1) r.n _ _ _ [.code r'.assign, .beginRound, .code r'.body] _
   rw [h4.assign, h4.body]; exact .plain (.cons (.code _) (.cons .beginRound (.cons (.code _) .nil))) h6
theorem zu7 (hS : Sim P C B N I) (hH : zbf B N μ H w) (hcs : Frs C μ acs cs) {fr : zap} {i : Nat} {rest : List Nat} {o : Oper} {r : zs4}
  (hfr : zgf C μ acs.length none fr (b.atR ⟨tmps, ds⟩ (.inRegion all (i :: rest) :: k'))) (ho : all[i]? = some o) (hw : Region.wanted o (yielded all tmps) = true)
  (hdef : (∃ c, o.op = .defer c) -> r = .fail \/ ∃ d, r = .defer d) (h : zw6 P C B N μ H w (Act.eval ⟨tmps, ds⟩) o r) :
  zb8 P C B N μ base (lone (b.atR ⟨tmps, ds⟩ (.inRegion all (i :: rest) :: k')) (cs ++ base) w) w (zop r C fr acs H) := by
 have hd : (∀ d, r ≠ .defer d) -> r ≠ .fail -> ∀ c, o.op ≠ .defer c := by
  intro h1 h2 c e; rcases hdef ⟨c, e⟩ with h | ⟨d, h⟩
  ·exact h2 h
  ·exact h1 d h
 cases r with
 | fail => exact trivial
 | val v H' =>
  have hd := hd (fun _ h => by cases h) (fun h => by cases h)
  rcases h with h | ⟨f, args', h1, h2⟩
  ·obtain ⟨v', w', μ', s, hm, hH', hb, hv⟩ := znu (b := b) (k' := k') (rest := rest) (cs := cs ++ base) ho hw hd h
   refine z00 (H := H) hfr hcs hm hH' hb hv ?_
   rw [Frame.finish_atR, ho, Option.bind_some, zkl]; exact .one s
  ·obtain ⟨v', w', s, μ', hm, hH', hb, hv⟩ := zuz (b := b) (k' := k') (rest := rest) (cs := cs ++ base) (R := fun v' w' => ∃ μ', μ.le μ' /\ zbf B N μ' H' w' /\ Below N w w' /\ zan μ' v v') ho hw hd h1 (h2.mono fun e w' hh => by obtain ⟨v', μ', g1, g2⟩ := hh; exact ⟨v', g1, μ', g2⟩)
   refine z00 (H := H) hfr hcs hm hH' hb hv ?_
   rw [Frame.finish_atR, ho, Option.bind_some, zkl]; exact s
 | enter f args =>
  have hd := hd (fun _ h => by cases h) (fun h => by cases h)
  exact z9q hS.fns hfr hcs hH fun fn h1 h2 => by
   obtain ⟨args', h3, h4⟩ := h fn h1 h2
   exact ⟨args', h4, .one (zqx ho hw hd h3)⟩
 | round l args =>
  have hd := hd (fun _ h => by cases h) (fun h => by cases h)
  obtain ⟨i0, args', hi, hl, hrun⟩ := h
  exact z9o hfr hcs hH hi hl fun f t as bd hy => .one (z0m ho hw hd (by rw [hrun]; exact hy))
 | defer d =>
  obtain ⟨_, d', h1, h2⟩ := h
  show zb8 P C B N μ base _ w (z9r d C fr acs H)
  unfold z9r
  cases hr : fr.R.roundOf with
  | some l => exact trivial
  | none =>
   have hb : b.roundOf = none := by
    have := hfr.rest.round
    rw [hr] at this; change zh3 μ none b.roundOf at this
    cases hb : b.roundOf with
    | none => rfl
    | some l => rw [hb] at this; exact this.elim
   simp only []
   cases hf : zb4 fr zbh with
   | none => exact trivial
   | some g =>
    have := zhf (cur := some H) hfr hf zkj
    refine ⟨μ, _, cs, w, .one (z0o ho hw hb h1), fun _ _ h => h, Below.refl N w, hH, ?_, hcs⟩
    rw [Frame.finish_atR] at this ⊢
    rw [zkl] at this ⊢
    have e : ∀ x, (Act.put ⟨tmps, d' :: ds⟩ x undef).tmps = (Act.put ⟨tmps, ds⟩ x undef).tmps := fun x => by cases x <;> rfl
    rw [e]; exact ⟨⟨this.rest.fn, this.rest.size, .cons h2 this.rest.defers, this.rest.mode, this.rest.kind, this.rest.round⟩, this.body⟩
 | panic v =>
  have hd := hd (fun _ h => by cases h) (fun h => by cases h)
  obtain ⟨v', h1, h2⟩ := h
  exact z9p hfr hcs hH h2 (.one (z0n ho hw hd h1))
 | recover =>
  have hd := hd (fun _ h => by cases h) (fun h => by cases h)
  show zb8 P C B N μ base _ w (zvz C fr acs H)
  unfold zvz
  cases hr : fr.R.roundOf with
  | some l => exact trivial
  | none =>
   have hb : b.roundOf = none := by
    have := hfr.rest.round
    rw [hr] at this; change zh3 μ none b.roundOf at this
    cases hb : b.roundOf with
    | none => rfl
    | some l => rw [hb] at this; exact this.elim
   cases hk : fr.R.deferred with
   | false => exact trivial
   | true =>
    have hkind : b.kind = .deferred := by have := hfr.rest.kind; rw [hk] at this; exact this
    cases hcs with
    | nil => exact trivial
    | @cons c b1 acs1 cs1 hc hcs1 =>
     have st := zvj (P := P) (b := b) (k' := k') (rest := rest) (cs := b1 :: (cs1 ++ base)) ho hw hd hb h
     have hm := hc.rest.mode
     have tr : ∀ todo, tryRecover (b.atR ⟨tmps, ds⟩ todo) (b1 :: (cs1 ++ base)) = match b1.mode with
       | .panicking ({ v, recovered := false, goexit := false } :: older) => some (v, { b1 with mode := .panicking ({ v, recovered := true } :: older) } :: (cs1 ++ base))
       | _ => none := by
      intro todo; obtain ⟨bfn, btmps, btodo, bdefers, bmode, bkind, bround⟩ := b
      simp only at hkind
      subst hkind; rfl
     rw [tr] at st; simp only []
     cases hcm : c.R.mode with
     | run =>
      rw [hcm] at hm
      cases hbm : b1.mode with
      | run =>
       rw [hbm] at st; simp only []
       cases hf : zb4 fr .niliface with
       | none => exact trivial
       | some g => exact ⟨μ, _, b1 :: cs1, w, .one st, fun _ _ h => h, Below.refl N w, hH, zhf hfr hf (by rw [zan]), .cons hc hcs1⟩
      | _ => rw [hbm] at hm; exact hm.elim
     | returning =>
      rw [hcm] at hm
      cases hbm : b1.mode with
      | returning =>
       rw [hbm] at st; simp only []
       cases hf : zb4 fr .niliface with
       | none => exact trivial
       | some g => exact ⟨μ, _, b1 :: cs1, w, .one st, fun _ _ h => h, Below.refl N w, hH, zhf hfr hf (by rw [zan]), .cons hc hcs1⟩
      | _ => rw [hbm] at hm; exact hm.elim
     | panicking ch =>
      rw [hcm] at hm
      cases hbm : b1.mode with
      | run => rw [hbm] at hm; exact hm.elim
      | returning => rw [hbm] at hm; exact hm.elim
      | panicking ch' =>
       rw [hbm] at hm st
       cases hm with
       | nil => exact trivial
       | @cons p e older older' hp hold =>
        obtain ⟨pv, pr⟩ := p
        cases pr with
        | true => exact trivial
        | false =>
         obtain ⟨ev', er, eg⟩ := e
         obtain ⟨q1, q2, q3⟩ := hp
         simp only at q1 q2 q3
         subst q2 q3
         simp only []
         cases hf : zb4 fr pv with
         | none => exact trivial
         | some g =>
          have fin := zhf (cur := some H) hfr hf q1
          refine ⟨μ, _, { b1 with mode := .panicking ({ v := ev', recovered := true } :: older') } :: cs1, w, .one st, fun _ _ h => h, Below.refl N w, hH, fin, .cons ?_ hcs1⟩
          refine ⟨⟨hc.rest.fn, hc.rest.size, hc.rest.defers, .cons ⟨q1, rfl, rfl⟩ hold, hc.rest.kind, hc.rest.round⟩, ?_⟩
          have := hc.body
          rw [hcm] at this; exact this
end
end Go.Am
namespace Go.Am
open Go Go.RowKit
section
variable {P : Program} {C : Ctx} {B N : Nat} {μ : Mu} {H H' Hs : zaf} {w : World}
def RE.on (C : Ctx) (e : RE) (x : zak) : Option zak :=
 match e with
 | .st b off l => zaj (!Nat.blt b C.base) (ob x.asCells fun c => zaj (Nat.ble (off + zbw l) c.2.1 && zd9 zab.one l) (some (.cells (c.1.setMany l off) c.2.1 c.2.2)))
 | .up b k v => zaj (!Nat.blt b C.base) (ob x.asMap fun m => some (.map (ze3 m [(k, v)])))
theorem zhk {e : RE} : znj C H e = some H' ↔ ∃ x y, H.t.get e.blk = some x /\ e.on C x = some y /\ H' = setBlk H e.blk y := by
 cases e with
 | st b off l =>
  simp only [znj, zem, zaq, RE.on, RE.blk, zad, zae]; constructor
  ·rintro ⟨h1, c, ⟨x, hx, hc⟩, h2, h⟩; cases h; exact ⟨x, _, hx, ⟨h1, c, hc, h2, rfl⟩, rfl⟩
  ·rintro ⟨x, y, hx, ⟨h1, c, hc, h2, h⟩, rfl⟩; cases h; exact ⟨h1, c, ⟨x, hx, hc⟩, h2, rfl⟩
 | up b k v =>
  simp only [znj, zee, RE.on, RE.blk, zad, zae]; constructor
  ·rintro ⟨h1, m, ⟨x, hx, hc⟩, h⟩; cases h; exact ⟨x, _, hx, ⟨h1, m, hc, rfl⟩, rfl⟩
  ·rintro ⟨x, y, hx, ⟨h1, m, hc, h⟩, rfl⟩; cases h; exact ⟨h1, m, ⟨x, hx, hc⟩, rfl⟩
theorem zf0 {b a : Nat} {x : zak} : (setBlk H b x).t.get a = if a = b then some x else H.t.get a := Tr.get_set _ _ _ _
def znq (a b : RE) : Prop := a.blk ≠ b.blk \/ ∃ c k v k' v', a = .up c k v /\ b = .up c k' v' /\ ze7 k k' = some false
theorem znq.symm {a b : RE} (h : znq a b) : znq b a := by
 rcases h with h | ⟨c, k, v, k', v', rfl, rfl, h⟩
 ·exact .inl fun e => h e.symm
 ·exact .inr ⟨c, k', v', k, v, rfl, rfl, ziu h⟩
theorem zzc0 {a b : RE} (h : zzc1 a b = true) : znq a b := by
 unfold zzc1 at h; rw [zal] at h; split at h
 ·rename_i e
  cases a with
  | st => cases h
  | up c k v =>
   cases b with
   | st => cases h
   | up c' k' v' =>
    have e : c = c' := zcy.1 e
    subst e; simp only [zzab] at h; split at h
    ·rename_i r hr
     cases r with
     | true => cases h
     | false => exact .inr ⟨c, k, v, k', v', rfl, rfl, hr⟩
    ·cases h
 ·rename_i e
  exact .inl fun k => e (zcy.2 k)
theorem zzn : ∀ {l : List RE}, z4v l = true -> l.Pairwise znq
 | [], _ => .nil
 | a :: l, h => by
  unfold z4v at h; rw [yac, zc3, ybc] at h; exact .cons (fun b hb => zzc0 (h.1 b hb)) (zzn h.2)
def zok (b : Nat) : List RE -> List (zab × zab)
 | [] => []
 | .st _ _ _ :: l => zok b l
 | .up c k v :: l => if c = b then (k, v) :: zok b l else zok b l
theorem zjd {b : Nat} : ∀ {l m : List RE}, zok b (l ++ m) = zok b l ++ zok b m
 | [], _ => rfl
 | .st _ _ _ :: l, m => zjd (l := l)
 | .up c k v :: l, m => by
  rw [List.cons_append, zok, zok, zjd (l := l)]
  split <;> simp
theorem zkv {b : Nat} {p : zab × zab} : ∀ {l : List RE}, p ∈ zok b l -> .up b p.1 p.2 ∈ l
 | .st _ _ _ :: l, h => .tail _ (zkv (l := l) h)
 | .up c k v :: l, h => by
  rw [zok] at h; split at h
  ·rename_i e
   subst e; rcases yat.1 h with rfl | h
   ·exact .head _
   ·exact .tail _ (zkv h)
  ·exact .tail _ (zkv h)
theorem zzb8 {b : Nat} {l : List RE} (h : ∀ e ∈ l, e.blk ≠ b) : zok b l = [] := by
 cases hx : zok b l with
 | nil => rfl
 | cons p r =>
  have : p ∈ zok b l := by rw [hx]; exact .head _
  exact absurd rfl (h _ (zkv this))
theorem zzb7 {b : Nat} {l m : List RE} (p : l.Perm m) : (zok b l).Perm (zok b m) := by
 induction p with
 | nil => exact .refl _
 | cons x _ ih =>
  cases x with
  | st => exact ih
  | up c k v =>
   rw [zok, zok]; split
   ·exact ih.cons _
   ·exact ih
 | swap x y l =>
  cases x with
  | st => cases y <;> exact .refl _
  | up c k v =>
   cases y with
   | st => exact .refl _
   | up c' k' v' =>
    simp only [zok]; split <;> split <;> first | exact .refl _ | exact .swap _ _ _
 | trans _ _ h1 h2 => exact h1.trans h2
theorem zzkg {b : Nat} {l : List RE} (h : l.Pairwise znq) : DK (zok b l) := by
 unfold DK; induction l with
 | nil => exact .nil
 | cons x l ih =>
  rw [List.pairwise_cons] at h
  cases x with
  | st => exact ih h.2
  | up c k v =>
   rw [zok]; split
   ·rename_i e
    subst e; refine .cons (fun p hp => ?_) (ih h.2)
    rcases h.1 _ (zkv hp) with h1 | ⟨_, _, _, _, _, e1, e2, h1⟩
    ·exact absurd rfl h1
    ·cases e1; cases e2; exact h1
   ·exact ih h.2
structure zw3 (C : Ctx) (H : zaf) (s : List RE) (Hs : zaf) : Prop where
 next : Hs.next = H.next
 st : ∀ b off l, RE.st b off l ∈ s -> ∃ x y, H.t.get b = some x /\ (RE.st b off l).on C x = some y /\ Hs.t.get b = some y
 up : ∀ b k v, RE.up b k v ∈ s -> Hs.t.get b = some (.map (zok b s))
 no : ∀ a, (∀ e ∈ s, e.blk ≠ a) -> Hs.t.get a = H.t.get a
theorem zw3.nil : zw3 C H [] H := ⟨rfl, fun _ _ _ h => (by cases h), fun _ _ _ h => (by cases h), fun _ _ => rfl⟩
def zzc8 (C : Ctx) (H : zaf) (e : RE) : Prop :=
 match e with
 | .st _ _ _ => ∃ H', znj C H e = some H'
 | .up b _ _ => Nat.blt b C.base = false /\ H.t.get b = some (.map [])
theorem z9h {e : RE} (h : zua C H e = true) : zzc8 C H e := by
 cases e with
 | st b off l =>
  change (!zcm (zem C H b off l)) = true at h
  cases hs : zem C H b off l with
  | none => rw [hs] at h; cases h
  | some H' => exact ⟨H', hs⟩
 | up b k v =>
  unfold zua at h; simp only [yac, ybq] at h; refine ⟨h.1, ?_⟩
  have h2 := h.2
  split at h2
  ·rename_i hm; exact zjk hm
  ·cases h2
theorem zw3.step {s : List RE} {e : RE} (h : zw3 C H s Hs) (hr : zzc8 C H e) (ha : ∀ x ∈ s, znq x e) : ∃ H', znj C Hs e = some H' /\ zw3 C H (s ++ [e]) H' /\ (∀ b k v, e = .up b k v -> ∃ m, Hs.t.get b = some (.map m) /\ Nat.blt b C.base = false /\ (∀ p ∈ m, ze7 k p.1 = some false) /\ H' = setBlk Hs b (.map (m ++ [(k, v)]))) := by
 cases e with
 | st b off l =>
  have hne : ∀ x ∈ s, x.blk ≠ b := fun x hx => by
   rcases ha x hx with h1 | ⟨_, _, _, _, _, _, h1, _⟩
   ·exact h1
   ·cases h1
  obtain ⟨H1, h1⟩ := hr
  obtain ⟨x, y, hx, hy, rfl⟩ := zhk.1 h1
  have hx : H.t.get b = some x := hx
  have hg := h.no b hne
  refine ⟨setBlk Hs b y, zhk.2 ⟨x, y, by show Hs.t.get b = _; rw [hg]; exact hx, hy, rfl⟩, ⟨h.next, fun b' off' l' hm => ?_, fun b' k v hm => ?_, fun a ha' => ?_⟩, fun _ _ _ e => by cases e⟩
  ·rcases List.mem_append.1 hm with hm | hm
   ·obtain ⟨u, v, g1, g2, g3⟩ := h.st b' off' l' hm
    refine ⟨u, v, g1, g2, ?_⟩
    rw [zf0, if_neg (show ¬ b' = b from hne _ hm)]
    exact g3
   ·simp at hm
    obtain ⟨rfl, rfl, rfl⟩ := hm
    exact ⟨x, y, hx, hy, by rw [zf0, if_pos rfl]⟩
  ·rcases List.mem_append.1 hm with hm | hm
   ·rw [zf0, if_neg (show ¬ b' = b from hne _ hm), h.up b' k v hm, zjd]
    simp [zok]
   ·simp at hm
  ·rw [zf0, if_neg (fun e => ha' (.st b off l) (by simp) e.symm)]
   exact h.no a fun e he => ha' e (by simp [he])
 | up b k v =>
  obtain ⟨hb, hm⟩ := hr
  have hst : ∀ b' off l, RE.st b' off l ∈ s -> b' ≠ b := fun b' off l hx => by
   rcases ha _ hx with h1 | ⟨_, _, _, _, _, h1, _, _⟩
   ·exact h1
   ·cases h1
  have hg : Hs.t.get b = some (.map (zok b s)) := by
   by_cases hex : ∃ e ∈ s, e.blk = b
   ·obtain ⟨e, he, hb'⟩ := hex
    cases e with
    | st b' off l => exact absurd hb' (hst _ _ _ he)
    | up b' k' v' =>
     have hb' : b' = b := hb'
     subst hb'
     exact h.up _ _ _ he
   ·have hn : ∀ e ∈ s, e.blk ≠ b := fun e he hb' => hex ⟨e, he, hb'⟩
    rw [h.no b hn, hm, zzb8 hn]
  refine ⟨setBlk Hs b (.map (zok b s ++ [(k, v)])), zhk.2 ⟨_, _, hg, ?_, rfl⟩, ⟨h.next, fun b' off' l' hm' => ?_, fun b' k' v' hm' => ?_, fun a ha' => ?_⟩, fun b' k' v' e => ?_⟩
  ·simp only [RE.on, hb, ybm, zaj, cond_true, zak.asMap, zac, zb7]
  ·rcases List.mem_append.1 hm' with hm' | hm'
   ·obtain ⟨u, x, g1, g2, g3⟩ := h.st b' off' l' hm'
    refine ⟨u, x, g1, g2, ?_⟩
    rw [zf0, if_neg (hst _ _ _ hm')]
    exact g3
   ·simp at hm'
  ·rw [zf0, zjd]
   by_cases e : b' = b
   ·subst e
    rw [if_pos rfl]; simp [zok]
   ·rw [if_neg e]
    have : zok b' [RE.up b k v] = [] := by rw [zok, if_neg fun h => e h.symm]; rfl
    rw [this, ybe]; rcases List.mem_append.1 hm' with hm' | hm'
    ·exact h.up b' k' v' hm'
    ·simp at hm'; exact absurd hm'.1 e
  ·rw [zf0, if_neg (fun e => ha' (.up b k v) (by simp) e.symm)]
   exact h.no a fun e he => ha' e (by simp [he])
  ·cases e
   refine ⟨_, hg, hb, fun p hp => ?_, rfl⟩
   rcases ha _ (zkv hp) with h1 | ⟨_, _, _, _, _, e1, e2, h1⟩
   ·exact absurd rfl h1
   ·cases e1; cases e2; exact ziu h1
theorem zw3.list {s l : List RE} (h : zw3 C H s Hs) (hr : ∀ e ∈ l, zzc8 C H e) (ha : (s ++ l).Pairwise znq) : ∀ {H'}, zsq C l Hs = some H' -> zw3 C H (s ++ l) H' := by
 induction l generalizing s Hs with
 | nil => intro H' hl; cases hl; rw [ybe]; exact h
 | cons e l ih =>
  intro H' hl; unfold zsq at hl; rw [zad] at hl; obtain ⟨H1, h1, hl⟩ := hl
  have hap : ∀ x ∈ s, znq x e := fun x hx => by
   rw [List.pairwise_append] at ha; exact ha.2.2 x hx e (.head _)
  obtain ⟨H2, g1, g2, _⟩ := h.step (hr e (.head _)) hap
  rw [h1] at g1; cases g1
  have := ih g2 (fun x hx => hr x (.tail _ hx)) (by rw [yba]; exact ha) hl
  rwa [yba] at this
structure HEq' (μ : Mu) (H H' : zaf) : Prop where
 next : H'.next = H.next
 get : ∀ a, H'.t.get a = H.t.get a \/ ((∃ i, μ a = some i) /\ ∃ m m', H.t.get a = some (.map m) /\ H'.t.get a = some (.map m') /\ m.Perm m' /\ DK m)
theorem zw3.perm {s s' : List RE} {H1 H2 : zaf} (h : zw3 C H s H1) (h' : zw3 C H s' H2) (p : s.Perm s') (ha : s.Pairwise znq) (hm : ∀ e ∈ s, ∃ i, μ e.blk = some i) : HEq' μ H1 H2 := by
 refine ⟨h'.next.trans h.next.symm, fun a => ?_⟩
 by_cases hex : ∃ e ∈ s, e.blk = a
 ·obtain ⟨e, he, rfl⟩ := hex
  cases e with
  | st b off l =>
   obtain ⟨x, y, g1, g2, g3⟩ := h.st b off l he
   obtain ⟨x', y', g1', g2', g3'⟩ := h'.st b off l (p.mem_iff.1 he)
   rw [g1] at g1'; cases g1'
   rw [g2] at g2'; cases g2'
   exact .inl (g3'.trans g3.symm)
  | up b k v => exact .inr ⟨hm _ he, _, _, h.up b k v he, h'.up b k v (p.mem_iff.1 he), zzb7 p, zzkg ha⟩
 ·left
  rw [h.no a fun e he hb => hex ⟨e, he, hb⟩, h'.no a fun e he hb => hex ⟨e, p.mem_iff.2 he, hb⟩]
theorem zbf.congr' (hH : zbf B N μ H w) (h : HEq' μ H H') : zbf B N μ H' w := by
 have hle : ∀ a y, H'.t.get a = some y -> ∃ x, H.t.get a = some x /\ (y = x \/ ∃ m m', x = .map m /\ y = .map m' /\ m.Perm m' /\ DK m) := by
  intro a y hy; rcases h.get a with e | ⟨_, m, m', h1, h2, h3⟩
  ·exact ⟨y, by rw [<- e]; exact hy, .inl rfl⟩
  ·rw [h2] at hy; cases hy
   exact ⟨_, h1, .inr ⟨m, m', rfl, rfl, h3⟩⟩
 refine ⟨hH.base, hH.glob, fun a x i ha hx hi => ?_, by rw [h.next]; exact hH.next, hH.size, fun a ha => ?_, fun a x i hx hi => ?_, hH.own, fun a b x y i j hx hy hi hj ha hb e => ?_, fun a x t hp => ?_⟩
 ·obtain ⟨y, hy, hxy⟩ := hle a x hx
  obtain ⟨g1, g2, g3⟩ := hH.low a y i ha hy hi
  rcases hxy with rfl | ⟨m, m', rfl, rfl, _⟩
  ·exact ⟨g1, g2, g3⟩
  ·exact ⟨g1, rfl, rfl⟩
 ·rw [h.next] at ha
  obtain ⟨g1, g2⟩ := hH.fresh a ha
  refine ⟨g1, ?_⟩
  rcases h.get a with e | ⟨_, m, m', h1, _⟩
  ·rw [e]; exact g2
  ·rw [g2] at h1; cases h1
 ·obtain ⟨y, hy, hxy⟩ := hle a x hx
  obtain ⟨o, g1, g2⟩ := hH.blk a y i hy hi
  refine ⟨o, g1, ?_⟩
  rcases hxy with rfl | ⟨m, m', rfl, rfl, hp, hd⟩
  ·exact g2
  ·obtain ⟨es, clock, l', h1, h2, h3⟩ := g2
   refine ⟨es, clock, l', h1, ?_, h3⟩
   rcases h2 with rfl | ⟨h2, _⟩
   ·exact .inr ⟨hp.symm, hd.perm hp⟩
   ·exact .inr ⟨hp.symm.trans h2, hd.perm hp⟩
 ·obtain ⟨x', hx', _⟩ := hle a x hx
  obtain ⟨y', hy', _⟩ := hle b y hy
  exact hH.inj a b x' y' i j hx' hy' hi hj ha hb e
 ·obtain ⟨g1, g2, g3⟩ := hH.pnd a x t hp
  refine ⟨g1, ?_, g3⟩
  rcases h.get a with e | ⟨⟨i, hi⟩, _⟩
  ·rw [e]; exact g2
  ·rw [g1] at hi; cases hi
theorem zzca (hT : zc6 P C) (hbase : B <= C.base) (hH : zbf B N μ Hs w) {e : Env} {ρ : Operand -> Value} (hE : zhp μ e ρ) {o : Oper} {ef : Eff} {re : RE} (h1 : zsh o.op e = some ef) (h2 : z9d C ef = some re)
  (h3 : znj C Hs re = some H') (h4 : ∀ b k v, re = .up b k v -> ∃ m, Hs.t.get b = some (.map m) /\ Nat.blt b C.base = false /\ (∀ p ∈ m, ze7 k p.1 = some false) /\ H' = setBlk Hs b (.map (m ++ [(k, v)]))) :
  z2o P B N μ w ρ o zbh H' /\ ∃ i, μ re.blk = some i := by
 obtain ⟨dst, op, type, pos, after, guard⟩ := o
 have ups : ∀ {t : Nat} {m k x : Operand}, (ob (ev m e) fun m => ob (ev k e) fun k => ob (ev x e) fun v => some (Eff.upd t m k v)) = some ef -> zkb t m k x C e Hs = .val zbh H' /\ ∃ i, μ re.blk = some i := by
  intro t m k x h1; simp only [zad] at h1; obtain ⟨mv, hm, kv, hk, xv, hx, h1⟩ := h1
  cases h1; simp only [z9d, zad, zae, yac] at h2; obtain ⟨ty, hty, ke, hke, kty, hkty, ⟨hkd, hfit⟩, b, hb, h2⟩ := h2
  cases h2; obtain ⟨l, hl, hbb, hfr, rfl⟩ := h4 b kv xv rfl
  have hbm : zee Hs b = some l := by unfold zee; rw [hl]; rfl
  constructor
  ·unfold zkb
   simp only [hty, hke, hkty, hkd, hm, hb, hbb, hbm, hk, hfit, hx, zac, zaj, cond_true, ybm, zlv hfr]; rfl
  ·have := hE _ _ hm
   rw [zk0] at hb; subst hb; rw [zan] at this; obtain ⟨i, hi, _⟩ := this
   exact ⟨i, hi⟩
 cases op <;> try (cases h1; done)
 case insert t m k x =>
  obtain ⟨g1, g2⟩ := ups h1
  exact ⟨(zks (P := P) hT hbase hH hE g1).2, g2⟩
 case mapUpdate t m k x =>
  obtain ⟨g1, g2⟩ := ups h1
  exact ⟨(zks (P := P) hT hbase hH hE g1).1, g2⟩
 case store t a x =>
  simp only [zsh, zad] at h1; obtain ⟨av, ha, xv, hx, h1⟩ := h1
  cases h1; simp only [z9d, zad, zae] at h2; obtain ⟨ty, hty, p, hp, hsz, h2⟩ := h2
  cases h2; constructor
  ·refine zyy (P := P) hT hbase hH hE ?_
   unfold zyz; have h3' : zem C Hs p.1 p.2 xv.cells = some H' := h3
   simp only [hty, ha, hp, hx, zac, hsz, zaj, cond_true, h3']; rfl
  ·have := hE _ _ ha
   rw [zf1] at hp; subst hp; rw [zan] at this; obtain ⟨i, hi, _⟩ := this
   exact ⟨i, hi⟩
end
end Go.Am
namespace Go.Am
open Go Go.RowKit
section
variable {P : Program} {C : Ctx} {B N : Nat} {μ : Mu} {H H' H1 : zaf} {w : World} {all : Array Oper} {olds : List (Nat × List Nat)} {anc : Tr Nat} {n : Nat} {old tm tm' : Tm} {D D' D1 : Nat} {S : Nat -> Bool} {order : List Nat} {tmps : Array Value} {ds : List Deferred} {dp : Nat}
variable {b : Frame} {k : List Item} {cs : List Frame}
theorem zb3.congrD (h : ∀ k, tb D k = tb D' k) (R : zb3 μ all olds anc n old tm D S order tmps) : zb3 μ all olds anc n old tm D' S order tmps := by
 have e : tb D = tb D' := funext h
 exact ⟨R.reg, R.sched, fun i hi => by rw [<- h]; exact R.sub i hi, R.closed, by rw [<- e]; exact R.dclosed, R.size, R.now, R.past, fun d hd hw => R.keep d hd fun i o h1 h2 => by rw [h]; exact hw i o h1 h2, R.big⟩
theorem zbz.congrD (h : ∀ k, tb D k = tb D' k) (p : zbz C μ dp H all olds n old tm D S) : zbz C μ dp H all olds n old tm D' S := fun i hi => p i (by rw [h]; exact hi)
theorem zrd {α : Type} {R : α -> α -> Prop} (hs : ∀ a b, R a b -> R b a) : ∀ {l : List α}, l.Pairwise R -> ∀ a ∈ l, ∀ b ∈ l, a ≠ b -> R a b
 | [], _, a, ha, _, _, _ => by cases ha
 | x :: l, h, a, ha, b, hb, hne => by
  rw [List.pairwise_cons] at h; rcases yat.1 ha with rfl | ha'
  ·rcases yat.1 hb with rfl | hb'
   ·exact absurd rfl hne
   ·exact h.1 b hb'
  ·rcases yat.1 hb with rfl | hb'
   ·exact hs _ _ (h.1 a ha')
   ·exact zrd hs h.2 a ha' b hb' hne
theorem zzi9 {l m : List Nat} (h1 : l.Nodup) (h2 : m.Nodup) (h : ∀ i, i ∈ l ↔ i ∈ m) : l.Perm m := (List.perm_ext_iff_of_nodup h1 h2).2 h
theorem zze8 {o : Oper} (hl : zyw o.op = true) (ho : z3u C o = true) (e : Env) (H2 : zaf) : (zbx o.op).f C e H = (zbx o.op).f C e H2 := by
 obtain ⟨dst, op, type, pos, after, guard⟩ := o
 cases op <;> try (cases hl; done)
 rename_i c; simp only [zyw] at hl; split at hl
 case h_2 => cases hl
 rename_i hc; simp only [z3u, hc] at ho; simp only [zbx, zzjo, hc, zfx, zp4, z1j]
 cases ht : zd8 c.argTypes.toList 0 with
 | none => rfl
 | some t =>
  rw [ht, zac] at ho; simp only [zac]
  cases hx : zd8 c.args.toList 0 with
  | none => rfl
  | some x =>
   simp only [zac]
   cases hy : C.tys.get t with
   | none => rfl
   | some ty =>
    rw [hy] at ho; simp only [zac]
    cases hv : ev x e with
    | none => rfl
    | some v =>
     simp only [zac]; have h6 : Nat.beq ty.desc.tag 6 = false := by simpa using ho
     unfold z7l; split
     ·rfl
     ·split
      ·rfl
      ·split
       ·rfl
       ·split
        ·rw [h6]; rfl
        ·rfl
theorem z3k {G : List Nat} (hG : z2p all anc D G D1) (hlen : zle C all = true) {Ds : Nat} {seq : List Nat} (hDs : ∀ k, tb Ds k = (tb D k || decide (k ∈ seq))) (hseq : ∀ i ∈ seq, S i = true) {g : Nat} (hg : g ∈ G) (hup : ∀ k, tb (zoi anc g) k = true -> S k = true)
  (hp : zbz C μ dp H all olds n old tm Ds S) (H2 : zaf) : zbz C μ dp H2 all olds n old tm Ds S := by
 intro j hj hSj; rcases hp j hj hSj with ⟨u, wu, vu, pu⟩ | h
 ·refine .inl ⟨u, wu, vu, ?_⟩
  rw [hDs] at hj; simp only [ybr, decide_eq_true_eq] at hj; rcases hj with hj | hj
  ·rcases hG.again j u pu.op hj with h | h | h | h
   ·exact pu.pure h H2
   ·exact pu.float h H2
   ·refine ⟨pu.op, pu.want, ?_, pu.put⟩
    have hlo : z3u C u = true := by
     unfold zle at hlen; rw [zc3, ybc] at hlen; exact hlen u (ybw (by simpa using pu.op))
    have := pu.val
    cases wu with
    | false => exact this
    | true => rw [if_pos rfl] at this ⊢; rw [<- this]; exact (zze8 h hlo _ _).symm
   ·rw [hup j (h g hg)] at hSj; cases hSj
  ·rw [hseq j hj] at hSj; cases hSj
 ·exact .inr h
theorem zzfo (hT : zc6 P C) (hbase : B <= C.base) {G : List Nat} (hG : z2p all anc D G D1) (hlen : zle C all = true) {ef : Nat -> Eff} {re : Nat -> RE} (hef : ∀ i ∈ G, ztk all old olds tm i = some (ef i) /\ z9d C (ef i) = some (re i))
  (hap : (G.map re).Pairwise znq) (hrd : ∀ i ∈ G, zzc8 C H (re i)) : ∀ (order : List Nat) (S : Nat -> Bool) (tmps : Array Value) (μ : Mu) (w : World) (seq : List Nat) (Hs : zaf) (Ds : Nat),
  seq.Nodup -> (∀ i ∈ seq, i ∈ G /\ S i = true) -> zw3 C H (seq.map re) Hs -> (∀ i ∈ seq, ∃ j, μ (re i).blk = some j) -> (∀ k, tb Ds k = (tb D k || decide (k ∈ seq))) -> zbf B N μ Hs w →
  zb3 μ all olds anc n old tm Ds S order tmps -> zbz C μ dp Hs all olds n old tm Ds S →
  ∃ (S' : Nat -> Bool) (order' : List Nat) (tmps' : Array Value) (μ' : Mu) (w' : World) (seq' : List Nat) (Hs' : zaf), Steps P (lone (b.atR ⟨tmps, ds⟩ (.inRegion all order :: k)) cs w) (lone (b.atR ⟨tmps', ds⟩ (.inRegion all order' :: k)) cs w') /\ Below N w w' /\ μ.lw μ' /\ (∀ d, d ≠ dp -> μ.ln d μ') ∧
   seq'.Perm G /\ zw3 C H (seq'.map re) Hs' /\ (∀ i ∈ seq', ∃ j, μ' (re i).blk = some j) /\ zbf B N μ' Hs' w' /\ zb3 μ' all olds anc n old tm D1 S' order' tmps' /\ zbz C μ' dp Hs' all olds n old tm D1 S' /\ (∀ i ∈ seq', S' i = true) := by
 have hapG : ∀ i ∈ G, ∀ j ∈ G, i ≠ j -> znq (re i) (re j) := by
  rw [List.pairwise_map] at hap; exact zrd (fun a b h => h.symm) hap
 have fin : ∀ (order : List Nat) (S : Nat -> Bool) (tmps : Array Value) (μ : Mu) (w : World) (seq : List Nat) (Hs : zaf) (Ds : Nat),
  seq.Nodup -> (∀ i ∈ seq, i ∈ G /\ S i = true) -> zw3 C H (seq.map re) Hs -> (∀ i ∈ seq, ∃ j, μ (re i).blk = some j) -> (∀ k, tb Ds k = (tb D k || decide (k ∈ seq))) -> zbf B N μ Hs w →
  zb3 μ all olds anc n old tm Ds S order tmps -> zbz C μ dp Hs all olds n old tm Ds S -> (∀ i ∈ G, i ∈ seq) →
  ∃ (S' : Nat -> Bool) (order' : List Nat) (tmps' : Array Value) (μ' : Mu) (w' : World) (seq' : List Nat) (Hs' : zaf), Steps P (lone (b.atR ⟨tmps, ds⟩ (.inRegion all order :: k)) cs w) (lone (b.atR ⟨tmps', ds⟩ (.inRegion all order' :: k)) cs w') /\ Below N w w' /\ μ.lw μ' /\ (∀ d, d ≠ dp -> μ.ln d μ') ∧
   seq'.Perm G /\ zw3 C H (seq'.map re) Hs' /\ (∀ i ∈ seq', ∃ j, μ' (re i).blk = some j) /\ zbf B N μ' Hs' w' /\ zb3 μ' all olds anc n old tm D1 S' order' tmps' /\ zbz C μ' dp Hs' all olds n old tm D1 S' /\ (∀ i ∈ seq', S' i = true) := by
  intro order S tmps μ w seq Hs Ds h1 h2 h3 h4 h5 h6 h7 h8 h9; have hD : ∀ k, tb Ds k = tb D1 k := fun k => by
   rw [h5, hG.done]; congr 1
   by_cases hk : k ∈ G
   ·simp [hk, h9 k hk]
   ·have : k ∉ seq := fun h => hk (h2 k h).1
    simp [hk, this]
  exact ⟨S, order, tmps, μ, w, seq, Hs, .refl _ _, Below.refl _ _, fun _ _ h => h, fun d _ => μ.ln_refl d, zzi9 h1 hG.nodup fun i => ⟨fun h => (h2 i h).1, h9 i⟩, h3, h4, h6, h7.congrD hD, h8.congrD hD, fun i hi => (h2 i hi).2⟩
 intro order; induction order with
 | nil =>
  intro S tmps μ w seq Hs Ds h1 h2 h3 h4 h5 h6 h7 h8; refine fin _ S tmps μ w seq Hs Ds h1 h2 h3 h4 h5 h6 h7 h8 fun i hi => ?_
  obtain ⟨o, ho, hi2, _⟩ := hG.op i hi
  have := h7.sub _ (h7.sched i (yaf.1 ho).1)
  rw [h5, hi2] at this; simpa using this
 | cons i order ih =>
  intro S tmps μ w seq Hs Ds h1 h2 h3 h4 h5 h6 h7 h8; by_cases hall : ∀ i ∈ G, i ∈ seq
  ·exact fin _ S tmps μ w seq Hs Ds h1 h2 h3 h4 h5 h6 h7 h8 hall
  cases hi : tb Ds i with
  | true =>
   obtain ⟨o, ho, hS, hb, hs⟩ := h7.sched
   obtain ⟨S', tmps', μ1, w1, s1, g1, r1, p1, up⟩ := zx9 (b := b) (k := k) (cs := cs) (ds := ds) hT h6 h7 h8 hi
   obtain ⟨S2, order', tmps2, μ2, w2, seq2, Hs2, s2, b2, l2, d2, rest⟩ := ih S' tmps' μ1 w1 seq Hs Ds h1 (fun j hj => ⟨(h2 j hj).1, up j (h2 j hj).2⟩) h3 (fun j hj => by obtain ⟨x, hx⟩ := h4 j hj; exact ⟨x, g1.le _ _ hx⟩) h5 g1.heap r1 p1
   exact ⟨S2, order', tmps2, μ2, w2, seq2, Hs2, .head s1 s2, g1.below.trans b2, fun a x hx => l2 a x (g1.le a x hx), fun d hd => Mu.ln_trans (g1.pd d hd) (d2 d hd), rest⟩
  | false =>
   obtain ⟨o, ho, hS, hb, hs⟩ := h7.sched
   have hiG : i ∈ G := by
    cases hd1 : tb D1 i with
    | false =>
     exfalso
     rcases hG.rest i o ho hd1 with h | h
     ·refine hall fun g hg => ?_
      have := h7.sub g (h7.reg.up h7.closed ho hb (h g hg))
      obtain ⟨_, _, hg2, _⟩ := hG.op g hg
      rw [h5, hg2] at this; simpa using this
     ·refine h fun j hj => ?_
      have := h7.sub j (hb j hj)
      rw [h5] at this; rw [hG.done]; simp only [ybr, decide_eq_true_eq] at this ⊢
      exact this.imp id fun h => (h2 j h).1
    | true =>
     rw [hG.done] at hd1; rw [h5] at hi; simp only [Bool.or_eq_false_iff] at hi; rw [hi.1] at hd1; simpa using hd1
   have hiseq : i ∉ seq := fun h => by
    rw [h5] at hi; simp [h] at hi
   obtain ⟨o', ho', _, _, hdst⟩ := hG.op i hiG
   rw [ho] at ho'; cases ho'
   obtain ⟨e1, e2⟩ := hef i hiG
   unfold ztk at e1; simp only [zad, zae, zbn] at e1; obtain ⟨o', ho', wn, hw, hwn, e1⟩ := e1
   have : o' = o := by
    have : all[i]? = some o' := by simpa using ho'
    rw [ho] at this; exact (ybj this).symm
   subst this; subst hwn; have hwn := h7.wanted ho hb hw
   obtain ⟨Hn, a1, a2, a3⟩ := h3.step (hrd i hiG) (fun x hx => by
    obtain ⟨j, hj, rfl⟩ := List.mem_map.1 hx
    exact hapG j (h2 j hj).1 i hiG fun e => hiseq (e ▸ hj))
   obtain ⟨hv, j0, hj0⟩ := zzca (P := P) (o := o') hT hbase h6 (h7.erel (ds := ds) h6.glob ho hS hb) e1 e2 a1 a3
   have hdf : ∀ c, o'.op ≠ .defer c := fun c e => by rw [e] at e1; cases e1
   obtain ⟨v', w', μ', s1, m1, m2, m3, m4⟩ := znu (b := b) (k' := k) (rest := order) (cs := cs) ho hwn hdf hv
   have hD2 : ∀ k, tb (Nat.lor Ds (zwz i)) k = (tb Ds k || k == i) := fun k => by rw [z2z, zpw]; congr 1; exact Bool.beq_comm
   have r1 := (h7.mono m1.f).did (D' := Nat.lor Ds (zwz i)) (tm' := tm) ho hD2 (fun d hd => by rw [hdst] at hd; cases hd) (fun _ _ => rfl) m4 (ds := ds)
   have p0 := z3k hG hlen h5 (fun j hj => (h2 j hj).2) hiG (fun k hk => h7.reg.up h7.closed ho hb hk) h8 Hn
   have p1 : zbz C μ' dp Hn all olds n old tm (Nat.lor Ds (zwz i)) (fun k => S k || k == i) := by
    intro j hj hSj; rw [hD2] at hj; simp only [Bool.or_eq_false_iff, ybr] at hj hSj; exact (zbz.mono (m1.ln dp) p0) j (hj.resolve_right (by rw [hSj.2]; simp)) hSj.1
   obtain ⟨S2, order', tmps2, μ2, w2, seq2, Hs2, s2, b2, l2, d2, rest⟩ := ih (fun k => S k || k == i) (Act.put ⟨tmps, ds⟩ o'.dst v').tmps μ' w' (seq ++ [i]) Hn (Nat.lor Ds (zwz i))
    (by rw [List.nodup_append]; exact ⟨h1, by simp, fun a ha b hb e => by simp at hb; subst hb; exact hiseq (e ▸ ha)⟩)
    (fun j hj => by
     rcases List.mem_append.1 hj with hj | hj
     ·exact ⟨(h2 j hj).1, by rw [(h2 j hj).2]; rfl⟩
     ·simp at hj; subst hj; exact ⟨hiG, by simp⟩)
    (by rw [List.map_append]; exact a2)
    (fun j hj => by
     rcases List.mem_append.1 hj with hj | hj
     ·obtain ⟨x, hx⟩ := h4 j hj; exact ⟨x, m1.f _ _ hx⟩
     ·simp at hj; subst hj; exact ⟨j0, m1.f _ _ hj0⟩)
    (fun k => by
     rw [hD2, h5, Bool.or_assoc]; congr 1
     rw [Bool.eq_iff_iff]; simp)
    m2 r1 p1
   exact ⟨S2, order', tmps2, μ2, w2, seq2, Hs2, .head s1 s2, m3.trans b2, fun a x hx => l2 a x (m1.f a x hx), fun d hd => Mu.ln_trans (m1.ln d) (d2 d hd), rest⟩
end
end Go.Am
namespace Go.Am
open Go Go.RowKit
section
variable {P : Program} {C : Ctx} {B N : Nat} {I : World -> Prop} {μ ν : Mu} {H H' : zaf} {w : World} {tm : Tm} {R : zgv} {acs : List zap} {base cs : List Frame}
variable {b : Frame} {tmps : Array Value} {ds : List Deferred} {k : List zcj} {k' : List Item} {all : Array Oper}
theorem zt6 {m : Option Nat} (h : zh3 μ none m) : m = none := by
 cases m with
 | none => rfl
 | some l => exact h.elim
theorem zn0 {l : Nat} {m : Option Nat} (h : zh3 μ (some l) m) : ∃ i, μ l = some i /\ m = some i.b := by
 cases m with
 | none => exact h.elim
 | some m => obtain ⟨i, h1, h2⟩ := h; exact ⟨i, h1, by rw [h2]⟩
theorem zi6 {r : Loop} (a : Array Value) (b : TypeId) (c : Nat × Nat) : Obj.loop r ≠ .cells a b c := by intro h; cases h
theorem zrp (hH : zbf B N μ H w) (hcs : Frs C μ acs cs) (hR : zbq μ R (b.atR ⟨tmps, ds⟩ [])) (ht : zct μ R.n tm tmps) {todo : List zcj} {btodo : List Item} {jump : Option Code}
  (h0 : b.roundOf = none -> z9c jump = true -> step P (lone (b.atR ⟨tmps, ds⟩ btodo) (cs ++ base) w) = .next (lone { b.atR ⟨tmps, ds⟩ btodo with mode := .returning } (cs ++ base) w))
  (h1 : ∀ l c rest v w', b.roundOf = some l -> b.kind = .normal -> (Instr.endRound l jump).run P w = .ok v w' -> step P (lone (b.atR ⟨tmps, ds⟩ btodo) (c :: rest) w) = .next (lone (c.finish v) rest w')) :
  zb8 P C B N μ base (lone (b.atR ⟨tmps, ds⟩ btodo) (cs ++ base) w) w (zit jump C ⟨todo, tm, R⟩ acs H) := by
 unfold zit; simp only []
 cases hr : R.roundOf with
 | none =>
  have hb : b.roundOf = none := by
   have := hR.round
   rw [hr] at this; exact zt6 this
  cases hj : z9c jump with
  | false => exact trivial
  | true => exact zx0 hH hcs hR ht (.one (h0 hb hj))
 | some l =>
  obtain ⟨i, hi, hb⟩ : ∃ i, μ l = some i /\ b.roundOf = some i.b := by
   have := hR.round
   rw [hr] at this; exact zn0 this
  simp only []
  cases hx : zd7 H l with
  | none => exact trivial
  | some r =>
   rw [zac]
   cases hcs with
   | nil => exact trivial
   | @cons c b1 acs1 cs1 hc hcs1 =>
    simp only []
    cases hd : R.deferred with
    | true => exact trivial
    | false =>
     have hkind : b.kind = .normal := by have := hR.kind; rw [hd] at this; exact this
     cases hf : zb4 c (.bool jump.isNone) with
     | none => exact trivial
     | some c' =>
      obtain ⟨hl, r', hg, hw, rel⟩ := zj6 hH hx hi
      have run : (Instr.endRound i.b jump).run P w = .ok (.bool jump.isNone) (World.setBlk w i.b (.loop { r' with state := if jump.isNone then .ready else .done, pending := jump })) := by
       simp only [Instr.endRound, Sem.run_bind, zg5 hw, Result.andThen_ok, zgw hw zi6, Sem.run_pure]
      refine ⟨μ, _, cs1, _, .one (h1 i.b b1 (cs1 ++ base) _ _ hb hkind run), fun _ _ h => h, zc0 (hH.own l i hl hi).1, ?_, zhf hc hf (by rw [zan]), hcs1⟩
      refine hH.upd hg hi hl ?_
      rw [znt]; exact ⟨_, rfl, rfl, rfl, rel.fn, rel.tm, rel.params, rel.assign, rel.body, rel.defers⟩
theorem z1u {id : Nat} : ∀ {k : List zcj} {k' : List Item}, zex (zbj μ) k k' -> zec id k = none -> exitTo id k' = none := by
 intro k k' h; induction h with
 | nil => intro _; rfl
 | cons a l ih =>
  intro e
  cases a with
  | inBlock i =>
   unfold zec at e; simp only [zcj.blockId] at e; rw [zal] at e; unfold exitTo; by_cases hi : i = id
   ·subst hi
    rw [if_pos (zcy.2 rfl)] at e
    cases e
   ·rw [if_neg fun h => hi (zcy.1 h)] at e
    simp [hi, ih e]
  | _ =>
   unfold zec at e; unfold exitTo; exact ih e
theorem zzkc (hH : zbf B N μ H w) (hcs : Frs C μ acs cs) (hR : zbq μ R (b.atR ⟨tmps, ds⟩ [])) (ht : zct μ R.n tm tmps) (hk : zex (zbj μ) k k') {id : Nat} :
  zb8 P C B N μ base (lone (b.atR ⟨tmps, ds⟩ (.code (.exit id) :: k')) (cs ++ base) w) w (zw9 id C k tm R acs H) := by
 unfold zw9
 cases he : zec id k with
 | some r =>
  obtain ⟨r', h1, h2⟩ := zzb1 hk he
  exact zgq hH hcs hR ht h2 (.one (stepR_exit h1))
 | none =>
  exact zrp hH hcs hR ht (fun _ h => by cases h) fun l c rest v w' hb hkd hr => stepR_round_exit hb hkd (z1u hk he) hr
theorem ret_ok (hH : zbf B N μ H w) (hcs : Frs C μ acs cs) (hR : zbq μ R (b.atR ⟨tmps, ds⟩ [])) (ht : zct μ R.n tm tmps) :
  zb8 P C B N μ base (lone (b.atR ⟨tmps, ds⟩ (.code .ret :: k')) (cs ++ base) w) w (xRet C k tm R acs H) :=
 zrp hH hcs hR ht (fun hb _ => stepR_ret hb) fun _ _ _ _ _ hb hkd hr => stepR_round_ret hb hkd hr
theorem z4m (hH : zbf B N μ H w) (hcs : Frs C μ acs cs) (hR : zbq μ R (b.atR ⟨tmps, ds⟩ [])) (ht : zct μ R.n tm tmps) :
  zb8 P C B N μ base (lone (b.atR ⟨tmps, ds⟩ []) (cs ++ base) w) w (zit none C ⟨[], tm, R⟩ acs H) :=
 zrp hH hcs hR ht (fun hb _ => stepR_end hb) fun _ _ _ _ _ hb hkd hr => stepR_round_end hb hkd hr
theorem zlw {o : Oper} {rest : List Oper} : zj2 C all k R acs (o :: rest) tm H = match zbb o.guard all tm with
  | none => .fail 20
  | some false => zj2 C all k R acs rest (putA R.n tm o.dst zbh) H
  | some true => match ((aop o.op).f C (.now tm) H).asVal with
   | some p => zj2 C all k R acs rest (putA R.n tm o.dst p.1) p.2
   | none => zop ((aop o.op).f C (.now tm) H) C ⟨.ops all (o :: rest) :: k, tm, R⟩ acs H := by
 show (match zbb o.guard all tm with
  | some w => Bool.rec (motive := fun _ => zho) (zj2 C all k R acs rest (putA R.n tm o.dst zbh) H)
     (let r := (aop o.op).f C (.now tm) H
     match r.asVal with
     | some p => zj2 C all k R acs rest (putA R.n tm o.dst p.1) p.2
     | none => zop r C ⟨.ops all (o :: rest) :: k, tm, R⟩ acs H) w
  | none => .fail 20) = _
 cases zbb o.guard all tm with
 | none => rfl
 | some w => cases w <;> rfl
theorem zub {n i : Nat} (h : i < n) : (List.range n).drop i = i :: (List.range n).drop (i + 1) := by
 rw [yam (by simpa using h)]; simp
theorem zxy (hS : Sim P C B N I) : ∀ (rest : List Oper) (i : Nat) (tm : Tm) (H : zaf) (w : World) (μ : Mu) (tmps : Array Value), rest = all.toList.drop i -> i <= all.size -> I w -> zbf B N μ H w -> Frs C μ acs cs →
  zbq μ R (b.atR ⟨tmps, ds⟩ []) -> zct μ R.n tm tmps -> zex (zbj μ) k k' →
  zb8 P C B N μ base (lone (b.atR ⟨tmps, ds⟩ (.inRegion all ((List.range all.size).drop i) :: k')) (cs ++ base) w) w (zj2 C all k R acs rest tm H) := by
 intro rest; induction rest with
 | nil =>
  intro i tm H w μ tmps hi hle hI hH hcs hR ht hk; have : all.size <= i := by
   have := congrArg List.length hi
   simp at this; omega
  rw [yau (by simpa using this)]
  exact zgq hH hcs hR ht hk (.one stepR_region_end)
 | cons o rest ih =>
  intro i tm H w μ tmps hi hle hI hH hcs hR ht hk; obtain ⟨h1, h2⟩ := zed hi
  have hlt : i < all.size := by have := (yad.1 h1).1; simpa using this
  have ho : all[i]? = some o := by simpa using h1
  rw [zlw, zub hlt]
  cases hw : zbb o.guard all tm with
  | none => exact trivial
  | some wn =>
   have hwn := ht.wanted (all := all) hw
   cases wn with
   | false =>
    refine zb8.of_steps (.one (zg4 ho hwn)) (fun _ _ h => h) (Below.refl N w) ?_
    rw [zkl]; have t := ht.put (ds := ds) (dst := o.dst) zkj
    exact ih (i + 1) _ _ _ _ _ h2 hlt hI hH hcs (hR.slots t.1) t hk
   | true =>
    have hop := zzh9 hS.tys hS.base hS.fns hS.prims hH hI (ht.erel (ds := ds) hH.glob) o
    simp only []; generalize hr : (aop o.op).f C (.now tm) H = r at hop
    have hdef : (∃ c, o.op = .defer c) -> r = .fail \/ ∃ d, r = .defer d := fun h => by rw [<- hr]; exact zzo h _ _ _
    have hfr : zgf C μ acs.length none ⟨.ops all (o :: rest) :: k, tm, R⟩ (b.atR ⟨tmps, ds⟩ (.inRegion all (i :: (List.range all.size).drop (i + 1)) :: k')) := by
     refine ⟨hR.todo, ?_⟩
     rw [if_pos hR.running, <- zub hlt, hi]; exact .plain (.cons (.ops all i hle) hk) ht
    cases hv : r.asVal with
    | none => exact zu7 hS hH hcs hfr ho hwn hdef hop
    | some p =>
     have : r = .val p.1 p.2 := by cases r <;> simp [zs4.asVal] at hv; rw [<- hv]
     subst this; simp only []; have hd : ∀ c, o.op ≠ .defer c := fun c e => by
      rcases hdef ⟨c, e⟩ with h | ⟨d, h⟩ <;> cases h
     rcases hop with h | ⟨f, args', h3, h4⟩
     ·obtain ⟨v', w', μ', s, hm, hH', hb, hv⟩ := znu (b := b) (k' := k') (rest := (List.range all.size).drop (i + 1)) (cs := cs ++ base) ho hwn hd h
      refine zb8.of_steps (.one s) hm.f hb ?_
      have t := (ht.mono hm).put (ds := ds) (dst := o.dst) hv
      exact ih (i + 1) _ _ _ _ _ h2 hlt (hS.inv _ _ hb hI) hH' (hcs.mono hm) ((hR.mono hm).slots t.1) t (hk.mono fun _ _ r => r.mono hm)
     ·obtain ⟨v', w', s, μ', hm, hH', hb, hv⟩ := zuz (b := b) (k' := k') (rest := (List.range all.size).drop (i + 1)) (cs := cs ++ base) (R := fun v' w' => ∃ μ', μ.le μ' /\ zbf B N μ' p.2 w' /\ Below N w w' /\ zan μ' p.1 v') ho hwn hd h3 (h4.mono fun e w' hh => by obtain ⟨v', μ', g1, g2⟩ := hh; exact ⟨v', g1, μ', g2⟩)
      refine zb8.of_steps s hm.f hb ?_
      have t := (ht.mono hm).put (ds := ds) (dst := o.dst) hv
      exact ih (i + 1) _ _ _ _ _ h2 hlt (hS.inv _ _ hb hI) hH' (hcs.mono hm) ((hR.mono hm).slots t.1) t (hk.mono fun _ _ r => r.mono hm)
theorem zzfj (hS : Sim P C B N I) (hI : I w) (hH : zbf B N μ H w) (hcs : Frs C μ acs cs) (hR : zbq μ R (b.atR ⟨tmps, ds⟩ [])) (hk : zex (zbj μ) k k') {olds : List (Nat × List Nat)} {anc : Tr Nat} {old : Tm} {D : Nat} {S : Nat -> Bool} {order : List Nat} {st : zcz} {stages : List zcz} {o : Oper}
  (hr : zb3 μ all olds anc R.n old tm D S order tmps) (hst : zb2 all.toList anc (st :: stages) D = true) (hp : zbz C μ acs.length H all olds R.n old tm D S) (ho : all[st.heavy]? = some o) :
  zb8 P C B N μ base (lone (b.atR ⟨tmps, ds⟩ (.inRegion all order :: k')) (cs ++ base) w) w (z2r all old olds st stages o C k tm R acs H) := by
 have hlt : st.heavy <= all.size := Nat.le_of_lt (yaf.1 ho).1
 obtain ⟨S', order', tmps', μ', w', s, g, r1, p1⟩ := reach (b := b) (k := k') (cs := cs ++ base) (ds := ds) hS.tys hst hlt order S tmps μ w hH hr hp
 refine zb8.of_steps s g.le g.below ?_
 replace hI := hS.inv _ _ g.below hI
 replace hH := g.heap
 replace hcs := hcs.monoD fun d hd => g.pd d (by omega)
 replace hR := hR.mono g.le
 replace hk : zex (zbj μ') k k' := hk.mono fun _ _ r => r.mono g.le
 unfold z2r
 cases hw : zbb o.guard all tm with
 | none => exact trivial
 | some wn =>
  obtain ⟨o', ho', hS', hb', _⟩ := r1.sched
  rw [ho] at ho'; cases ho'
  have hwn := r1.wanted ho hb' hw
  have hfr : zgf C μ' acs.length none ⟨.reg all old olds (st :: stages) :: k, tm, R⟩ (b.atR ⟨tmps', ds⟩ (.inRegion all (st.heavy :: order') :: k')) := by
   refine ⟨(hR.slots r1.size).todo, ?_⟩
   rw [if_pos hR.running]; exact .wait r1 hst hlt (toWeak hst hlt r1 p1) hk
  cases wn with
  | false =>
   refine z00 (H := H) hfr hcs μ'.le_refl hH (Below.refl N w') zkj ?_
   rw [Frame.finish_atR, ho, Option.bind_some]; exact .one (zg4 ho hwn)
  | true =>
   have hop := zzh9 hS.tys hS.base hS.fns hS.prims hH hI (r1.erel (ds := ds) hH.glob ho hS' hb') o
   exact zu7 hS hH hcs hfr ho hwn (fun h => zzo h _ _ _) hop
theorem z6h (hS : Sim P C B N I) (hH : zbf B N μ H w) (hcs : Frs C μ acs cs) (hR : zbq μ R (b.atR ⟨tmps, ds⟩ [])) (hk : zex (zbj μ) k k') {olds : List (Nat × List Nat)} {anc : Tr Nat} {old : Tm} {D : Nat} {S : Nat -> Bool} {order : List Nat} {st : zcz} {stages : List zcz}
  (hr : zb3 μ all olds anc R.n old tm D S order tmps) (hst : zb2 all.toList anc (st :: stages) D = true) (hp : zbz C μ acs.length H all olds R.n old tm D S) (hlt : all.size < st.heavy) (hle2 : st.heavy <= all.size + all.size) :
  zb8 P C B N μ base (lone (b.atR ⟨tmps, ds⟩ (.inRegion all order :: k')) (cs ++ base) w) w (z2t all old olds st stages (st.heavy - (all.size + 1)) C k tm R acs H) := by
 obtain ⟨o, D1, D2, ho, hf, h1, h2, h3⟩ := ztf hst hlt hle2
 generalize st.heavy - (all.size + 1) = i at *
 obtain ⟨o', ho', hi, hb, hD1⟩ := zin h1
 rw [ho] at ho'; cases ho'
 unfold z2t; generalize hx : (ob (zd8 all.toList i) fun o => ob (zbb o.guard all tm) fun w => zaj (w && zcm (zzeu C o.op)) (ob ((aop o.op).f C (.mixed tm old (zcq i olds) (zbt o.op)) H).asVal fun p =>
  ob (zfh C p.2 all R.n old olds st.lights (putA R.n tm o.dst p.1)) fun tm' => some (⟨⟨.reg all old olds stages :: k, tm', R⟩, acs, p.2⟩ : zh5))) = x
 cases x with
 | none => exact trivial
 | some x =>
  simp only [zad, zae, zbn, yac] at hx; obtain ⟨o', ho', wn, hw, ⟨hwn, hlo⟩, p, hv, tm', hl, hx⟩ := hx
  have hlo : zzeu C o'.op = none := by
   cases hx : zzeu C o'.op with
   | none => rfl
   | some _ => rw [hx] at hlo; cases hlo
  have : o' = o := by
   have h : all[i]? = some o' := by simpa using ho'
   rw [ho] at h; exact (ybj h).symm
  subst this; subst hwn
  cases hx; have hop : (aop o'.op).f C (zmo tm old olds i o') H = .val p.1 p.2 := by
   show (aop o'.op).f C (.mixed tm old (zcq i olds) (zbt o'.op)) H = _
   generalize (aop o'.op).f C (.mixed tm old (zcq i olds) (zbt o'.op)) H = r at hv
   cases r <;> simp [zs4.asVal] at hv
   rw [<- hv]
  obtain ⟨l, hl2⟩ : ∃ l, p.2 = za0 H l none := z6i hf hlo hop
  have hH' : zbf B N (μ.wait H.next (.cells (Tr.ofList l) (zbw l) none, acs.length, i)) p.2 w := by rw [hl2]; exact hH.early
  have hle : μ.lw (μ.wait H.next (.cells (Tr.ofList l) (zbw l) none, acs.length, i)) := fun _ _ h => h
  have hpd : ∀ d, μ.ln d (μ.wait H.next (.cells (Tr.ofList l) (zbw l) none, acs.length, i)) := fun d => ⟨hle, fun a x j ha => by
   show (if a = H.next then _ else μ.pd a) = _
   rw [if_neg]
   ·exact ha
   ·intro e
    have := (hH.pnd _ _ _ ha).2.1
    rw [e, (hH.fresh _ (yal _)).2] at this
    cases this⟩
  have hgrow : HM.HLe H p.2 := by
   intro b y hb; rw [hl2]; show (H.t.set H.next _).get b = some y
   rw [Tr.get_set, if_neg]
   ·exact hb
   ·intro e
    rw [e, (hH.fresh _ (yal _)).2] at hb
    cases hb
  have r1 := (hr.light (v := p.1) ho hi hb hD1).mono hle
  have p1 : zbz C (μ.wait H.next (.cells (Tr.ofList l) (zbw l) none, acs.length, i)) acs.length p.2 all olds R.n old (putA R.n tm o'.dst p.1) D1 S := by
   intro j hj hSj; rw [hD1] at hj; simp only [ybr, beq_iff_eq] at hj; rcases hj with hj | rfl
   ·rcases hp j hj hSj with ⟨u, wu, vu, pu⟩ | ⟨u, vu, pu⟩
    ·exact .inl ⟨u, wu, vu, (pu.keep hr.reg hr.dclosed hj ho hi).grow hgrow⟩
    ·exact .inr ⟨u, vu, (pu.keep hr.reg hr.dclosed hj ho hi).mono (hpd _)⟩
   ·refine .inr ⟨o', p.1, zsz.fresh hr.reg hr.dclosed ho hb hi hf hlo hw ⟨H, l, by rw [hop, hl2], ?_⟩⟩
    show (if H.next = H.next then _ else μ.pd H.next) = _
    rw [if_pos rfl]
  obtain ⟨r2, p2⟩ := zkp _ _ _ hl h2 r1 p1
  exact ⟨_, _, cs, w, .refl _ _, hle, Below.refl N w, hH', ⟨(hR.mono hle).todo, by rw [if_pos hR.running]; exact .reg r2 h3 p2 (hk.mono fun _ _ r => r.mono hle)⟩, hcs.monoD fun d _ => hpd d⟩
theorem zoc {α β : Type} {f : α -> Option β} (d : β) : ∀ {l : List α} {r : List β}, zd4 f l = some r -> (∀ x ∈ l, f x = some ((f x).getD d)) /\ r = l.map fun x => (f x).getD d
 | [], r, h => by rw [zg9] at h; cases h; exact ⟨fun x hx => (by cases hx), rfl⟩
 | a :: l, r, h => by
  rw [zch, zad] at h; obtain ⟨v, hv, h⟩ := h
  rw [zad] at h; obtain ⟨m, hm, h⟩ := h
  cases h; obtain ⟨h1, h2⟩ := zoc d hm
  refine ⟨fun x hx => ?_, ?_⟩
  ·rcases yat.1 hx with rfl | hx
   ·rw [hv]; rfl
   ·exact h1 x hx
  ·rw [ybn, hv, h2]; rfl
theorem z6g (hS : Sim P C B N I) (hH : zbf B N μ H w) (hcs : Frs C μ acs cs) (hR : zbq μ R (b.atR ⟨tmps, ds⟩ [])) (hk : zex (zbj μ) k k') {olds : List (Nat × List Nat)} {anc : Tr Nat} {old : Tm} {D : Nat} {S : Nat -> Bool} {order : List Nat} {st : zcz} {stages : List zcz}
  (hr : zb3 μ all olds anc R.n old tm D S order tmps) (hst : zb2 all.toList anc (st :: stages) D = true) (hp : zbz C μ acs.length H all olds R.n old tm D S) (hlt : all.size + all.size < st.heavy) :
  zb8 P C B N μ base (lone (b.atR ⟨tmps, ds⟩ (.inRegion all order :: k')) (cs ++ base) w) w (z2s all old olds st stages C k tm R acs H) := by
 obtain ⟨D1, D2, hG, h2, h3⟩ := zte hst hlt
 unfold z2s; generalize hx : (zaj (zle C all) (ob (z6t all old olds tm st.again) fun es => ob (zm3 C es H) fun H' => ob (zfh C H' all R.n old olds st.lights tm) fun tm' => some (⟨⟨.reg all old olds stages :: k, tm', R⟩, acs, H'⟩ : zh5))) = x
 cases x with
 | none => exact trivial
 | some x =>
  simp only [zad, zae] at hx; obtain ⟨hlen, es, he, H1, hg, tm', hl, hx⟩ := hx
  cases hx; unfold zm3 at hg; simp only [zad, zae, yac] at hg; obtain ⟨rs, hrs, ⟨hap, hrd⟩, hg⟩ := hg
  obtain ⟨e1, e2⟩ := zoc (Eff.store 0 .nilptr .nilptr) he
  obtain ⟨e3, e4⟩ := zoc (RE.st 0 0 []) hrs
  have hef : ∀ i ∈ st.again, ztk all old olds tm i = some ((ztk all old olds tm i).getD (Eff.store 0 .nilptr .nilptr)) /\ z9d C ((ztk all old olds tm i).getD (Eff.store 0 .nilptr .nilptr)) = some ((z9d C ((ztk all old olds tm i).getD (Eff.store 0 .nilptr .nilptr))).getD (RE.st 0 0 [])) :=
   fun i hi => ⟨e1 i hi, e3 _ (by rw [e2]; exact List.mem_map.2 ⟨i, hi, rfl⟩)⟩
  generalize hE : (fun i => (ztk all old olds tm i).getD (Eff.store 0 .nilptr .nilptr)) = ef at e2
  have hef : ∀ i ∈ st.again, ztk all old olds tm i = some (ef i) /\ z9d C (ef i) = some ((fun i => (z9d C (ef i)).getD (RE.st 0 0 [])) i) := by
   intro i hi; rw [<- hE]; exact hef i hi
  have hrs' : rs = st.again.map fun i => (z9d C (ef i)).getD (RE.st 0 0 []) := by rw [e4, e2, List.map_map]; rfl
  generalize (fun i => (z9d C (ef i)).getD (RE.st 0 0 [])) = re at hef hrs'
  subst hrs'
  have hap := zzn hap
  have hrd : ∀ i ∈ st.again, zzc8 C H (re i) := by
   rw [zc3, ybc] at hrd; exact fun i hi => z9h (hrd _ (List.mem_map.2 ⟨i, hi, rfl⟩))
  have hd1 : zw3 C H (st.again.map re) H1 := by
   have := zw3.list zw3.nil (l := st.again.map re) (fun e he => by obtain ⟨i, hi, rfl⟩ := List.mem_map.1 he; exact hrd i hi) (by rw [List.nil_append]; exact hap) hg
   rwa [List.nil_append] at this
  obtain ⟨S', order', tmps', μ', w', seq, Hs, s1, b1, l1, d1, pm, dn, hm, hH', r1, p1, hin⟩ := zzfo (b := b) (k := k') (cs := cs ++ base) (ds := ds) (H := H) hS.tys hS.base hG hlen hef hap hrd order S tmps μ w [] H D List.nodup_nil (fun i hi => by cases hi) zw3.nil (fun i hi => by cases hi) (fun k => by simp) hH hr hp
  have hapS : (seq.map re).Pairwise znq := ((pm.map re).symm.pairwise_iff (fun h => znq.symm h)).1 hap
  have heq : HEq' μ' Hs H1 := dn.perm hd1 (pm.map re) hapS fun e he => by obtain ⟨i, hi, rfl⟩ := List.mem_map.1 he; exact hm i hi
  have hH1 := hH'.congr' heq
  have p2 : zbz C μ' acs.length H1 all olds R.n old tm D1 S' := by
   cases hG0 : st.again with
   | nil =>
    rw [hG0] at pm hd1; have hs0 : seq = [] := List.Perm.eq_nil pm
    subst hs0; have hle : HM.HLe Hs H1 := fun a y hy => by rw [hd1.no a (fun e he => by cases he), <- dn.no a (fun e he => by cases he)]; exact hy
    intro j hj hSj; rcases p1 j hj hSj with ⟨u, wu, vu, pu⟩ | h
    ·exact .inl ⟨u, wu, vu, pu.grow hle⟩
    ·exact .inr h
   | cons g l =>
    have hg : g ∈ st.again := by rw [hG0]; exact .head _
    have hSg : S' g = true := hin g (pm.mem_iff.2 hg)
    obtain ⟨o, ho, _⟩ := hG.op g hg
    refine z3k hG hlen (seq := st.again) hG.done (fun i hi => hin i (pm.mem_iff.2 hi)) hg (fun k hk => r1.reg.up r1.closed ho (fun j hj => r1.closed g o ho hSg j hj) hk) p1 H1
  obtain ⟨r2, p3⟩ := zkp _ _ _ hl h2 r1 p2
  exact ⟨_, _, cs, w', s1, l1, b1, hH1, ⟨((hR.mono l1).slots r1.size).todo, by rw [if_pos hR.running]; exact .reg r2 h3 p3 (hk.mono fun _ _ r => r.mono l1)⟩, hcs.monoD fun d hd => d1 d (by omega)⟩
end
end Go.Am
