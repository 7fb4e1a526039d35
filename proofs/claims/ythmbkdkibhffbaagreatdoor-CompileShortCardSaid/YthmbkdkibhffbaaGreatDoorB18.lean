/- Data read from the world, typed: what DataW.trod met, in the abstract heap of the old memory. -/
import Derived.Carry
import Derived.ChangeArms
import Derived.HandedShaped
import Derived.JoinedOf
import Derived.LaidMore
import Derived.OpenShut
import Derived.ProofKit
import Derived.Stop.Joined
import Derived.Test.YthmbkdkibhffbaaGreatDoorRows
import GoSem.ClaimJoined
import Derived.Test.YthmbkdkibhffbaaGreatDoorB17
set_option linter.all false
noncomputable section
namespace Go.Am
open Go Go.RowKit
def zd2 (P : Program) : Nat -> TypeId -> D -> Prop
 | 0, _, _ => False
 | f + 1, t, x => match P.underlying t with
  | some .bool => ∃ b, x = .bool b
  | some (.int k) => ∃ n, x = .int k n /\ (Lit.int k n).wf = true
  | some .string => ∃ l : List Nat, x = .str l /\ l.length <= reachBytes /\ ∀ c ∈ l, c < 256
  | some (.slice e) => ∃ l : List D, x = .sl (P.cellsOf e) l /\ l.length * P.bytesOf e <= reachBytes /\ ∀ y ∈ l, zd2 P f e y
  | some (.struct fs) => ∃ l : List D, x = .st l /\ zec (fun fd y => zd2 P f fd.type y) fs.toList l
  | _ => False
def z2m (P : Program) : Nat -> List Field -> Nat -> Bool
 | off, [], n => off == n
 | off, f :: fs, n => f.offset == off && z2m P (off + P.cellsOf f.type) fs n
structure Plain (P : Program) (S : TypeId -> Prop) : Prop where
 part : ∀ t, S t -> match P.underlying t with
  | some .bool => True
  | some (.int _) => True
  | some .string => True
  | some (.slice e) => S e /\ 0 < P.cellsOf e
  | some (.struct fs) => (∀ f ∈ fs.toList, S f.type) /\ z2m P 0 fs.toList (P.cellsOf t) = true
  | _ => False
def av (N : Nat) (v : Value) : zab := (z98 N v).getD .nilptr
def Has (N : Nat) (cs : List Value) : Prop := ∀ v ∈ cs, z98 N v = some (av N v)
theorem zq2 {α : Type} {Q : Nat -> α -> Prop} : ∀ (n : Nat), (∀ i, i < n -> ∃ p, Q i p) -> ∃ l : List α, l.length = n /\ ∀ i p, l[i]? = some p -> Q i p := by
 intro n; induction n with
 | zero => intro _; exact ⟨[], rfl, fun i p h => by simp at h⟩
 | succ n ih =>
  intro h; obtain ⟨l, hl, hq⟩ := ih fun i hi => h i (by omega)
  obtain ⟨p, hp⟩ := h n (by omega)
  refine ⟨l ++ [p], by simp [hl], fun i q hq' => ?_⟩
  by_cases hi : i < n
  ·rw [List.getElem?_append_left (by omega)] at hq'; exact hq i q hq'
  ·rw [yaq (by omega)] at hq'
   have : i - l.length = 0 := by
    cases hz : i - l.length with
    | zero => rfl
    | succ m => rw [hz] at hq'; simp at hq'
   rw [this] at hq'
   simp at hq'
   subst hq'
   have : i = n := by omega
   subst this; exact hp
section
variable {H : Type} {enc : TypeId × Value -> H} {P : Program} {w : World}
theorem zj3 {p : Nat -> Bool} : ∀ {ts : List TypeId} {ds : List (DataW H)}, (DataW.weightsEach P ts ds).all p = true -> ∀ {i : Nat} {t : TypeId} {d : DataW H}, ts[i]? = some t -> ds[i]? = some d -> (DataW.weights P t d).all p = true
 | [], _, _, i, _, _, h1, _ => by simp at h1
 | _ :: _, [], _, i, _, _, _, h2 => by simp at h2
 | t :: ts, d :: ds, h, i, u, e, h1, h2 => by
  rw [DataW.weightsEach, List.all_append, yac] at h
  cases i with
  | zero => simp at h1 h2; subst h1 h2; exact h.1
  | succ i => exact zj3 h.2 (by simpa using h1) (by simpa using h2)
theorem zlc {p : Nat -> Bool} {e : TypeId} : ∀ {ds : List (DataW H)}, (DataW.weightsAll P e ds).all p = true -> ∀ {i : Nat} {d : DataW H}, ds[i]? = some d -> (DataW.weights P e d).all p = true
 | [], _, i, _, h2 => by simp at h2
 | d :: ds, h, i, x, h2 => by
  rw [DataW.weightsAll, List.all_append, yac] at h
  cases i with
  | zero => simp at h2; subst h2; exact h.1
  | succ i => exact zlc h.2 (by simpa using h2)
theorem z12 {a : Addr} {n : Nat} {cs : List Value} (h : w.cells? 0 a n = some cs) : cs.length = n /\ (0 < n -> a.spot = none /\ ∃ c t fr, w.heap[a.block]? = some (.cells c t fr) /\ ∀ j, j < n -> c[a.off + j]? = cs[j]?) := by
 unfold World.cells? at h
 rw [if_pos (Nat.zero_le _)] at h
 have hl := mapM_some_length h
 have hg := mapM_some_get h
 simp only [List.length_range] at hl; refine ⟨hl, fun hn => ?_⟩
 have key : ∀ j, j < n -> w.cell? (a.add j) = cs[j]? := fun j hj => hg j j (by simp [hj])
 have h0 := key 0 hn
 have hs0 : ∃ v, cs[0]? = some v := ⟨cs[0]'(by omega), yae (by omega)⟩
 obtain ⟨v0, hv0⟩ := hs0
 rw [hv0] at h0; have e0 : a.add 0 = a := by simp [Addr.add]
 rw [e0] at h0; unfold World.cell? at h0
 cases hb : w.heap[a.block]? with
 | none => rw [hb] at h0; cases h0
 | some o =>
  rw [hb] at h0
  cases o with
  | cells c t fr =>
   simp only [] at h0; split at h0
   ·cases h0
   ·rename_i hsp
    refine ⟨by simpa using hsp, c, t, fr, rfl, fun j hj => ?_⟩
    have := key j hj
    unfold World.cell? at this
    by_cases hj0 : j = 0
    ·subst hj0; rw [hv0, Nat.add_zero]; exact h0
    ·have eb : (a.add j).block = a.block := by unfold Addr.add; rw [if_neg hj0]
     have eo : (a.add j).off = a.off + j := by unfold Addr.add; rw [if_neg hj0]
     have es : (a.add j).spot = none := by unfold Addr.add; rw [if_neg hj0]
     rw [eb, hb] at this; simp only [es, eo, Option.isSome_none, yar, if_false] at this; exact this
  | _ => cases h0
theorem z15 {b : Nat} {c : Array Value} {t : TypeId} {fr : Nat × Nat} (h : w.heap[b]? = some (.cells c t fr)) :
  (zrf w).get (256 + b) = some (.cells (zv4 (fun j => (c[j]?).bind (z98 w.heap.size)) c.size) c.size none) := by
 have hb := (yaf.1 h).1
 unfold zrf; rw [zfg, if_pos (by omega), if_neg (by omega), show 256 + b - 256 = b by omega, h]
 rfl
theorem at_old {b off n : Nat} {c : Array Value} {t : TypeId} {fr : Nat × Nat} {cs : List Value} (h : w.heap[b]? = some (.cells c t fr)) (hl : cs.length = n) (hc : ∀ j, j < n -> c[off + j]? = cs[j]?) (hs : Has w.heap.size cs) :
  At (zrf w) (256 + b) off (cs.map (av w.heap.size)) := by
 refine ⟨_, _, _, z15 h, fun j a ha => ?_⟩
 rw [yav] at ha
 cases hj : cs[j]? with
 | none => rw [hj] at ha; cases ha
 | some v =>
  rw [hj] at ha; have hlt : j < n := by rw [<- hl]; exact (yad.1 hj).1
  have h1 := hc j hlt
  rw [hj] at h1; have hsz : off + j < c.size := (yaf.1 h1).1
  rw [zfg, if_pos hsz, h1]; have ha : av w.heap.size v = a := by simpa using ha
  rw [<- ha]; exact hs v (List.mem_of_getElem? hj)
theorem zpr {cs : List Value} : ∀ {fs : List Field} {off : Nat}, z2m P off fs cs.length = true -> (fs.map fun f => (cs.drop f.offset).take (P.cellsOf f.type)).flatten = cs.drop off
 | [], off, h => by simp [z2m] at h; subst h; simp
 | f :: fs, off, h => by
  rw [z2m, yac] at h; obtain ⟨h1, h2⟩ := h
  have h1 : f.offset = off := by simpa using h1
  rw [List.map_cons, List.flatten_cons, zpr h2, h1, <- List.drop_drop, List.take_append_drop]
theorem zzaf {α β : Type} {R : α -> β -> Prop} : ∀ {l : List α} {m : List β}, m.length = l.length -> (∀ (i : Nat) a b, l[i]? = some a -> m[i]? = some b -> R a b) -> zec R l m
 | [], [], _, _ => .nil
 | [], _ :: _, h, _ => by simp at h
 | _ :: _, [], h, _ => by simp at h
 | a :: l, b :: m, h, k => .cons (k 0 a b (by simp) (by simp)) (zzaf (by simpa using h) fun i a b h1 h2 => k (i + 1) a b (by simpa using h1) (by simpa using h2))
theorem zzf8 {S : TypeId -> Prop} (hP : Plain P S) (h0 : ∃ c n lo, (zrf w).get 0 = some (.cells c n lo)) :
  ∀ (fuel : Nat) (t : TypeId) (cs : List Value) (x : DataW H × List MemPlace), S t -> DataW.trod enc P w 0 (fun _ => true) true fuel t cs = some x -> (DataW.weights P t x.1).all (· <= reachBytes) = true →
   Has w.heap.size cs /\ ∃ d, RD (zrf w) d (cs.map (av w.heap.size)) /\ zd2 P fuel t d := by
 intro fuel; induction fuel with
 | zero => intro t cs x _ h; simp [DataW.trod] at h
 | succ n ih =>
  intro t cs x hS h hw; have hp := hP.part t hS
  have one : ∀ {v : Value} {a : zab}, z98 w.heap.size v = some a -> Has w.heap.size [v] /\ av w.heap.size v = a := by
   intro v a hv; have : av w.heap.size v = a := by unfold av; rw [hv]; rfl
   refine ⟨fun u hu => ?_, this⟩
   simp at hu; subst hu; rw [hv, this]
  cases hu : P.underlying t with
  | none => rw [hu] at hp; exact hp.elim
  | some dt =>
  cases dt with
  | bool =>
   obtain ⟨b, rfl, rfl⟩ := DataW.trod_bool hu h
   obtain ⟨h1, h2⟩ := one (v := .bool b) (a := .bool b) rfl
   exact ⟨h1, .bool b, by rw [zik]; simp [h2], by unfold zd2; rw [hu]; exact ⟨b, rfl⟩⟩
  | int k =>
   obtain ⟨m, rfl, rfl, hwf⟩ := DataW.trod_int hu h
   obtain ⟨h1, h2⟩ := one (v := .int k m) (a := .int k m) rfl
   exact ⟨h1, .int k m, by rw [zgn]; simp [h2], by unfold zd2; rw [hu]; exact ⟨m, rfl, hwf⟩⟩
  | string =>
   obtain ⟨s, rfl, rfl, _⟩ := DataW.trod_string hu h
   obtain ⟨h1, h2⟩ := one (v := .string s) (a := .str (zbl s)) rfl
   refine ⟨h1, .str (zbl s), by rw [zlp]; simp [h2], ?_⟩
   unfold zd2; rw [hu]; simp only [DataW.weights, ybh, List.all_nil, Bool.and_true, decide_eq_true_eq] at hw; refine ⟨_, rfl, by unfold zbl; simpa using hw, fun c hc => ?_⟩
   unfold zbl at hc; simp only [List.mem_map] at hc; obtain ⟨u, _, rfl⟩ := hc
   exact UInt8.toNat_lt u
  | slice e =>
   rw [hu] at hp; obtain ⟨hSe, hpos⟩ := hp
   rcases DataW.trod_slice hu h with ⟨rfl, rfl⟩ | ⟨a, len, cap, zhp, rest, m, hm, rfl, rfl, _, hlc, _, hel, hE, hR, _⟩
   ·obtain ⟨h1, h2⟩ := one (v := .slice none 0 0) (a := .nilslice) rfl
    refine ⟨h1, .sl (P.cellsOf e) [], by rw [zk9]; exact ⟨_, by simp [h2], [], .inl ⟨rfl, rfl⟩, by rw [RDs]⟩, ?_⟩
    unfold zd2; rw [hu]; exact ⟨[], rfl, by simp, fun y hy => by simp at hy⟩
   ·obtain rfl : n = m := by omega
    simp only [DataW.weights, hu, ybh, yac, List.all_append, decide_eq_true_eq, yag] at hw; obtain ⟨hsz, hwe, hwr⟩ := hw
    by_cases hcap : cap = 0
    ·subst hcap
     obtain rfl : len = 0 := by omega
     obtain ⟨h1, h2⟩ := one (v := .slice (some a) 0 0) (a := .slice 0 0 0 0) (by cases a; rfl)
     refine ⟨h1, .sl (P.cellsOf e) [], ?_, ?_⟩
     ·rw [zk9, List.map_cons, List.map_nil, h2]
      refine ⟨_, rfl, [], .inr ⟨0, 0, 0, rfl, yal _, ?_, fun i cs hi => by simp at hi⟩, by rw [RDs]⟩
      obtain ⟨c, k, lo, hc⟩ := h0
      have := hc
      unfold zrf at this; rw [zfg] at this; split at this
      case isFalse => cases this
      rw [if_pos (by omega)] at this
      cases ho : w.heap[0]? with
      | none => rw [ho] at this; cases this
      | some o =>
       rw [ho] at this
       cases o with
       | cells c' t' fr' =>
        simp only [Option.bind_some, absB] at this
        cases this
        exact ⟨_, _, _, hc, .inl rfl⟩
       | _ => cases this
     ·unfold zd2
      rw [hu]; exact ⟨[], rfl, by simp, fun y hy => by simp at hy⟩
    ·have hr := (hR rfl).1
     have hRr := (hR rfl).2
     have hel1 : ∀ i, i < len -> ∃ p : List Value × D, w.cells? 0 (a.add (i * P.cellsOf e)) (P.cellsOf e) = some p.1 /\ Has w.heap.size p.1 /\ RD (zrf w) p.2 (p.1.map (av w.heap.size)) /\ zd2 P n e p.2 := by
      intro i hi; have := hE i hi
      obtain ⟨y, hy⟩ : ∃ y, zhp[i]? = some y := ⟨zhp[i]'(by omega), yae (by omega)⟩
      rw [hy] at this; simp only [Option.bind_eq_some_iff] at this; obtain ⟨c1, hc1, hy1⟩ := this
      obtain ⟨g1, d, g2, g3⟩ := ih e c1 y hSe hy1 (zlc hwe (i := i) (by simp [hy]))
      exact ⟨(c1, d), hc1, g1, g2, g3⟩
     obtain ⟨l, hl, hq⟩ := zq2 len hel1
     have hfirst : ∃ c1, w.cells? 0 a (P.cellsOf e) = some c1 := by
      by_cases hlen : len = 0
      ·have := hRr 0 (by omega)
       obtain ⟨y, hy⟩ : ∃ y, rest[0]? = some y := ⟨rest[0]'(by omega), yae (by omega)⟩
       rw [hy] at this; simp only [Option.bind_eq_some_iff] at this; obtain ⟨c1, hc1, _⟩ := this
       exact ⟨c1, by simpa [hlen, Addr.add] using hc1⟩
      ·obtain ⟨p, hp, _⟩ := hel1 0 (by omega)
       exact ⟨p.1, by simpa [Addr.add] using hp⟩
     obtain ⟨c1, hc1⟩ := hfirst
     obtain ⟨hspot, c, ct, fr, hblk, _⟩ := (z12 hc1).2 hpos
     have hb : a.block < w.heap.size := (yaf.1 hblk).1
     have hav : z98 w.heap.size (.slice (some a) len cap) = some (.slice (256 + a.block) a.off len cap) := by
      obtain ⟨bb, oo, ss⟩ := a
      simp only at hspot hb
      subst hspot
      cases cap with
      | zero => exact absurd rfl hcap
      | succ cap => unfold z98; simp only []; rw [if_pos hb]
     obtain ⟨h1, h2⟩ := one hav
     refine ⟨h1, .sl (P.cellsOf e) (l.map (·.2)), ?_, ?_⟩
     ·rw [zk9]
      refine ⟨_, by rw [List.map_cons, List.map_nil, h2], l.map (fun p => p.1.map (av w.heap.size)), .inr ⟨256 + a.block, a.off, cap, by rw [yag, hl], by rw [yag, hl]; exact hlc, ⟨_, _, _, z15 hblk, .inl rfl⟩, fun i cs hi => ?_⟩, ?_⟩
      ·rw [yav] at hi
       cases hli : l[i]? with
       | none => rw [hli] at hi; cases hi
       | some p =>
        rw [hli] at hi; obtain rfl : p.1.map (av w.heap.size) = cs := by simpa using hi
        obtain ⟨k1, k2, k3, k4⟩ := hq i p hli
        obtain ⟨m1, m2⟩ := z12 k1
        obtain ⟨_, c', ct', fr', hb', hcc⟩ := m2 hpos
        have eb : (a.add (i * P.cellsOf e)).block = a.block := by unfold Addr.add; split <;> rfl
        have eo : (a.add (i * P.cellsOf e)).off = a.off + i * P.cellsOf e := by unfold Addr.add; split <;> simp_all
        rw [eb] at hb'
        rw [hblk] at hb'
        cases hb'
        rw [eo] at hcc; exact ⟨by rw [yag]; exact m1, at_old hblk m1 hcc k2⟩
      ·refine RDs.mk (by simp) fun i d cs' h1 h2 => ?_
       rw [yav] at h1 h2
       cases hli : l[i]? with
       | none => rw [hli] at h1; cases h1
       | some p =>
        rw [hli] at h1 h2; obtain rfl : p.2 = d := by simpa using h1
        obtain rfl : p.1.map (av w.heap.size) = cs' := by simpa using h2
        exact (hq i p hli).2.2.1
     ·unfold zd2
      rw [hu]; refine ⟨_, rfl, ?_, fun y hy => ?_⟩
      ·rw [yag, hl, <- hel]
       exact Nat.le_trans (yaj _ (Nat.le_add_right _ _)) hsz
      ·obtain ⟨p, hp, rfl⟩ := List.mem_map.1 hy
       obtain ⟨i, hi⟩ := List.mem_iff_getElem?.1 hp
       exact (hq i p hi).2.2.2
  | struct fs =>
   rw [hu] at hp; obtain ⟨hf, ht⟩ := hp
   obtain ⟨xs, m, hm, rfl, hlen, hxs, hel⟩ := DataW.trod_struct hu h
   obtain rfl : n = m := by omega
   simp only [DataW.weights, hu] at hw; have hel1 : ∀ i, i < fs.toList.length -> ∃ p : D, ∀ f, fs.toList[i]? = some f -> Has w.heap.size ((cs.drop f.offset).take (P.cellsOf f.type)) /\ RD (zrf w) p (((cs.drop f.offset).take (P.cellsOf f.type)).map (av w.heap.size)) /\ zd2 P n f.type p := by
    intro i hi; have hi' : i < fs.size := by simpa using hi
    obtain ⟨f, hfi⟩ : ∃ f, fs.toList[i]? = some f := ⟨fs.toList[i], yae hi⟩
    have := hel i f (by simpa using hfi)
    obtain ⟨y, hy⟩ : ∃ y, xs[i]? = some y := ⟨xs[i]'(by omega), yae (by omega)⟩
    rw [hy] at this; obtain ⟨g1, d, g2, g3⟩ := ih f.type _ y (hf f (List.mem_of_getElem? hfi)) this (zj3 hw (i := i) (by rw [yav, hfi]; rfl) (by rw [yav, hy]; rfl))
    refine ⟨d, fun f' hf' => ?_⟩
    rw [hfi] at hf'
    cases hf'
    exact ⟨g1, g2, g3⟩
   obtain ⟨l, hl, hq⟩ := zq2 fs.toList.length hel1
   have hfl := zpr (cs := cs) (P := P) (fs := fs.toList) (off := 0) (by rw [hlen]; exact ht)
   rw [List.drop_zero] at hfl; refine ⟨fun v hv => ?_, .st l, ?_, ?_⟩
   ·rw [<- hfl] at hv
    obtain ⟨part, hpart, hv⟩ := List.mem_flatten.1 hv
    obtain ⟨f, hfm, rfl⟩ := List.mem_map.1 hpart
    obtain ⟨i, hi⟩ := List.mem_iff_getElem?.1 hfm
    have hi' : i < fs.toList.length := (yad.1 hi).1
    exact (hq i (l[i]'(by omega)) (yae (by omega)) f hi).1 v hv
   ·rw [zij]
    refine ⟨fs.toList.map (fun f => ((cs.drop f.offset).take (P.cellsOf f.type)).map (av w.heap.size)), ?_, RDs.mk (by simp [hl]) fun i d cs' h1 h2 => ?_⟩
    ·conv => lhs; rw [<- hfl]
     rw [List.map_flatten, List.map_map]; rfl
    ·rw [yav] at h2
     cases hfi : fs.toList[i]? with
     | none => rw [hfi] at h2; cases h2
     | some f =>
      rw [hfi] at h2; obtain rfl := Option.some.inj h2
      exact (hq i d h1 f hfi).2.1
   ·unfold zd2
    rw [hu]; exact ⟨l, rfl, zzaf hl fun i f d h1 h2 => (hq i d h2 f h1).2.2⟩
  | _ => rw [hu] at hp; exact hp.elim
end
end Go.Am
namespace Go.Am
open Go Go.RowKit
structure z19 (P : Program) where
 (b i u8 u16 s limbs whole frac val expr exprs row rows table tables dfn dfns clause clauses plan : TypeId)
 hb : P.underlying b = some .bool
 hi : P.underlying i = some (.int .i64)
 hu8 : P.underlying u8 = some (.int .u8)
 hu16 : P.underlying u16 = some (.int .u16)
 hs : P.underlying s = some .string
 hlimbs : P.underlying limbs = some (.slice u16)
 hexprs : P.underlying exprs = some (.slice expr)
 hrows : P.underlying rows = some (.slice row)
 htables : P.underlying tables = some (.slice table)
 hdfns : P.underlying dfns = some (.slice dfn)
 hclauses : P.underlying clauses = some (.slice clause)
 hwhole : ∃ fs, P.underlying whole = some (.struct fs) /\ fs.toList.map (·.type) = [b, limbs]
 hfrac : ∃ fs, P.underlying frac = some (.struct fs) /\ fs.toList.map (·.type) = [whole, whole]
 hval : ∃ fs, P.underlying val = some (.struct fs) /\ fs.toList.map (·.type) = [u8, frac, i]
 hexpr : ∃ fs, P.underlying expr = some (.struct fs) /\ fs.toList.map (·.type) = [u8, s, val, exprs]
 hrow : ∃ fs, P.underlying row = some (.struct fs) /\ fs.toList.map (·.type) = [i, i, i, frac]
 htable : ∃ fs, P.underlying table = some (.struct fs) /\ fs.toList.map (·.type) = [s, b, rows]
 hdfn : ∃ fs, P.underlying dfn = some (.struct fs) /\ fs.toList.map (·.type) = [s, u8, b]
 hclause : ∃ fs, P.underlying clause = some (.struct fs) /\ fs.toList.map (·.type) = [s, s, i, i, i, b, expr, expr]
 hplan : ∃ fs, P.underlying plan = some (.struct fs) /\ fs.toList.map (·.type) = [s, dfns, tables, clauses]
 cu16 : P.cellsOf u16 = 1
 cexpr : P.cellsOf expr = 9
 crow : P.cellsOf row = 7
 ctable : P.cellsOf table = 3
 cdfn : P.cellsOf dfn = 3
 cclause : P.cellsOf clause = 24
 bytes : 1 <= P.bytesOf u16 /\ 1 <= P.bytesOf expr /\ 1 <= P.bytesOf row /\ 1 <= P.bytesOf table /\ 1 <= P.bytesOf dfn /\ 1 <= P.bytesOf clause
section
variable {P : Program} {f : Nat} {t : TypeId} {x : D}
theorem zj5 (h : zd2 P f t x) : ∃ g, f = g + 1 := by
 cases f with
 | zero => exact h.elim
 | succ g => exact ⟨g, rfl⟩
theorem zku (ht : P.underlying t = some .bool) (h : zd2 P f t x) : ∃ b, x = .bool b := by
 obtain ⟨g, rfl⟩ := zj5 h
 unfold zd2 at h; rw [ht] at h; exact h
theorem zpo {k : IntKind} (ht : P.underlying t = some (.int k)) (h : zd2 P f t x) : ∃ n, x = .int k n /\ (Lit.int k n).wf = true := by
 obtain ⟨g, rfl⟩ := zj5 h
 unfold zd2 at h; rw [ht] at h; exact h
theorem zg8 (ht : P.underlying t = some (.int .i64)) (h : zd2 P f t x) : ∃ n, x = .int .i64 n /\ i64 n := by
 obtain ⟨n, rfl, hn⟩ := zpo ht h
 simp only [Lit.wf, yac, decide_eq_true_eq] at hn; have h1 : IntKind.i64.min = -9223372036854775808 := rfl
 have h2 : IntKind.i64.max = 9223372036854775807 := rfl
 rw [h1, h2] at hn; exact ⟨n, rfl, hn.1, by omega⟩
theorem ztk (ht : P.underlying t = some (.int .u8)) (h : zd2 P f t x) : ∃ n : Nat, x = .int .u8 (n : Int) /\ n < 256 := by
 obtain ⟨n, rfl, hn⟩ := zpo ht h
 simp only [Lit.wf, yac, decide_eq_true_eq] at hn; have h1 : IntKind.u8.min = 0 := rfl
 have h2 : IntKind.u8.max = 255 := rfl
 rw [h1, h2] at hn; exact ⟨n.toNat, by rw [show ((n.toNat : Nat) : Int) = n by omega], by omega⟩
theorem z41 (ht : P.underlying t = some (.int .u16)) (h : zd2 P f t x) : ∃ n : Nat, x = .int .u16 (n : Int) /\ n < 65536 := by
 obtain ⟨n, rfl, hn⟩ := zpo ht h
 simp only [Lit.wf, yac, decide_eq_true_eq] at hn; have h1 : IntKind.u16.min = 0 := rfl
 have h2 : IntKind.u16.max = 65535 := rfl
 rw [h1, h2] at hn; exact ⟨n.toNat, by rw [show ((n.toNat : Nat) : Int) = n by omega], by omega⟩
theorem zim (ht : P.underlying t = some .string) (h : zd2 P f t x) : ∃ l : List Nat, x = .str l /\ l.length < zgc /\ ∀ c ∈ l, c < 256 := by
 obtain ⟨g, rfl⟩ := zj5 h
 unfold zd2 at h; rw [ht] at h; obtain ⟨l, h1, h2, h3⟩ := h
 unfold reachBytes at h2; exact ⟨l, h1, by unfold zgc; omega, h3⟩
theorem zfo {e : TypeId} {sz : Nat} (ht : P.underlying t = some (.slice e)) (hc : P.cellsOf e = sz) (hb : 1 <= P.bytesOf e) (h : zd2 P f t x) : ∃ (l : List D) (g : Nat), f = g + 1 /\ x = .sl sz l /\ l.length < zgc /\ ∀ y ∈ l, zd2 P g e y := by
 obtain ⟨g, rfl⟩ := zj5 h
 unfold zd2 at h; rw [ht] at h; obtain ⟨l, h1, h2, h3⟩ := h
 have : l.length <= l.length * P.bytesOf e := Nat.le_mul_of_pos_right _ hb
 unfold reachBytes at h2; exact ⟨l, g, rfl, by rw [<- hc]; exact h1, by unfold zgc; omega, h3⟩
theorem zec.ofMap {α β γ : Type} {k : α -> γ} {R : γ -> β -> Prop} : ∀ {l : List α} {m : List β}, zec (fun a b => R (k a) b) l m -> zec R (l.map k) m
 | [], _, .nil => .nil
 | _ :: _, _ :: _, .cons h r => .cons h (zec.ofMap r)
theorem zc6 {ts : List TypeId} (ht : ∃ fs, P.underlying t = some (.struct fs) /\ fs.toList.map (·.type) = ts) (h : zd2 P f t x) : ∃ (l : List D) (g : Nat), f = g + 1 /\ x = .st l /\ zec (fun t y => zd2 P g t y) ts l := by
 obtain ⟨fs, ht, rfl⟩ := ht
 obtain ⟨g, rfl⟩ := zj5 h
 unfold zd2 at h; rw [ht] at h; obtain ⟨l, h1, h2⟩ := h
 exact ⟨l, g, rfl, h1, zec.ofMap h2⟩
theorem zec.cons_inv {α β : Type} {R : α -> β -> Prop} {a : α} {l : List α} {m : List β} (h : zec R (a :: l) m) : ∃ b r, m = b :: r /\ R a b /\ zec R l r := by
 cases h with
 | cons h1 h2 => exact ⟨_, _, rfl, h1, h2⟩
theorem zec.nil_inv {α β : Type} {R : α -> β -> Prop} {m : List β} (h : zec R ([] : List α) m) : m = [] := by
 cases h; rfl
theorem zfr {α β : Type} {g : α -> β} {Q : α -> Prop} : ∀ {l : List β}, (∀ y ∈ l, ∃ a, y = g a /\ Q a) -> ∃ m : List α, l = m.map g /\ ∀ a ∈ m, Q a
 | [], _ => ⟨[], rfl, fun _ h => by cases h⟩
 | y :: l, h => by
  obtain ⟨a, h1, h2⟩ := h y (by simp)
  obtain ⟨m, h3, h4⟩ := zfr (l := l) fun z hz => h z (yas _ hz)
  exact ⟨a :: m, by simp [h1, h3], fun b hb => by
   rcases yat.1 hb with rfl | hb
   ·exact h2
   ·exact h4 b hb⟩
end
namespace z19
section
variable {P : Program} (A : z19 P) {f : Nat} {x : D}
theorem dWhole (h : zd2 P f A.whole x) : ∃ w : zdn, x = w.d /\ w.limbs.length < zgc /\ za6 65536 w.limbs := by
 obtain ⟨l, g, rfl, rfl, k⟩ := zc6 A.hwhole h
 obtain ⟨d1, r, rfl, h1, k⟩ := k.cons_inv
 obtain ⟨d2, r, rfl, h2, k⟩ := k.cons_inv
 obtain rfl := k.nil_inv
 obtain ⟨b, rfl⟩ := zku A.hb h1
 obtain ⟨l, g, rfl, rfl, hl, hm⟩ := zfo A.hlimbs A.cu16 A.bytes.1 h2
 obtain ⟨m, rfl, hq⟩ := zfr (g := fun n : Nat => D.int .u16 (n : Int)) (Q := fun n => n < 65536) fun y hy => z41 A.hu16 (hm y hy)
 exact ⟨⟨b, m⟩, rfl, by simpa using hl, hq⟩
theorem dFrac (h : zd2 P f A.frac x) : ∃ w : zem, x = w.dd /\ w.fit := by
 obtain ⟨l, g, rfl, rfl, k⟩ := zc6 A.hfrac h
 obtain ⟨d1, r, rfl, h1, k⟩ := k.cons_inv
 obtain ⟨d2, r, rfl, h2, k⟩ := k.cons_inv
 obtain rfl := k.nil_inv
 obtain ⟨a, rfl, a1, a2⟩ := A.dWhole h1
 obtain ⟨b, rfl, b1, b2⟩ := A.dWhole h2
 exact ⟨⟨a, b⟩, rfl, ⟨a1, b1⟩, a2, b2⟩
theorem dVal (h : zd2 P f A.val x) : ∃ w : zc3, x = w.d /\ w.fit := by
 obtain ⟨l, g, rfl, rfl, k⟩ := zc6 A.hval h
 obtain ⟨d1, r, rfl, h1, k⟩ := k.cons_inv
 obtain ⟨d2, r, rfl, h2, k⟩ := k.cons_inv
 obtain ⟨d3, r, rfl, h3, k⟩ := k.cons_inv
 obtain rfl := k.nil_inv
 obtain ⟨kk, rfl, hk⟩ := ztk A.hu8 h1
 obtain ⟨q, rfl, hq⟩ := A.dFrac h2
 obtain ⟨n, rfl, hn⟩ := zg8 A.hi h3
 exact ⟨⟨kk, q, n⟩, rfl, hk, hq, hn.1, hn.2⟩
theorem z83 : ∀ {l : List zal}, (∀ x ∈ l, x.fit) -> zal.fits l
 | [], _ => by unfold zal.fits; trivial
 | x :: l, h => by unfold zal.fits; exact ⟨h x (by simp), z83 fun y hy => h y (yas _ hy)⟩
theorem dExpr : ∀ (f : Nat) (x : D), zd2 P f A.expr x -> ∃ w : zal, x = w.d /\ w.fit := by
 intro f; induction f using Nat.strongRecOn with
 | _ f ih =>
 intro x h; obtain ⟨l, g, rfl, rfl, k⟩ := zc6 A.hexpr h
 obtain ⟨d1, r, rfl, h1, k⟩ := k.cons_inv
 obtain ⟨d2, r, rfl, h2, k⟩ := k.cons_inv
 obtain ⟨d3, r, rfl, h3, k⟩ := k.cons_inv
 obtain ⟨d4, r, rfl, h4, k⟩ := k.cons_inv
 obtain rfl := k.nil_inv
 obtain ⟨kk, rfl, hk⟩ := ztk A.hu8 h1
 obtain ⟨n, rfl, hn, hn'⟩ := zim A.hs h2
 obtain ⟨v, rfl, hv⟩ := A.dVal h3
 obtain ⟨l, g', rfl, rfl, hl, hm⟩ := zfo A.hexprs A.cexpr A.bytes.2.1 h4
 obtain ⟨m, rfl, hq⟩ := zfr (g := zal.d) (Q := zal.fit) fun y hy => ih g' (by omega) y (hm y hy)
 refine ⟨.mk kk n v m, ?_, ?_⟩
 ·rw [zal.d, zal.ds_eq]
 ·unfold zal.fit
  exact ⟨hk, hn, hn', hv, by simpa using hl, z83 hq⟩
theorem dRow (h : zd2 P f A.row x) : ∃ w : zhw, x = w.d /\ w.fit := by
 obtain ⟨l, g, rfl, rfl, k⟩ := zc6 A.hrow h
 obtain ⟨d1, r, rfl, h1, k⟩ := k.cons_inv
 obtain ⟨d2, r, rfl, h2, k⟩ := k.cons_inv
 obtain ⟨d3, r, rfl, h3, k⟩ := k.cons_inv
 obtain ⟨d4, r, rfl, h4, k⟩ := k.cons_inv
 obtain rfl := k.nil_inv
 obtain ⟨a, rfl, ha⟩ := zg8 A.hi h1
 obtain ⟨b, rfl, hb⟩ := zg8 A.hi h2
 obtain ⟨c, rfl, hc⟩ := zg8 A.hi h3
 obtain ⟨q, rfl, hq⟩ := A.dFrac h4
 exact ⟨⟨a, b, c, q⟩, rfl, ha, hb, hc, hq⟩
theorem dTable (h : zd2 P f A.table x) : ∃ w : zb8, x = w.d /\ w.fit := by
 obtain ⟨l, g, rfl, rfl, k⟩ := zc6 A.htable h
 obtain ⟨d1, r, rfl, h1, k⟩ := k.cons_inv
 obtain ⟨d2, r, rfl, h2, k⟩ := k.cons_inv
 obtain ⟨d3, r, rfl, h3, k⟩ := k.cons_inv
 obtain rfl := k.nil_inv
 obtain ⟨n, rfl, hn, _⟩ := zim A.hs h1
 obtain ⟨b, rfl⟩ := zku A.hb h2
 obtain ⟨l, g', rfl, rfl, hl, hm⟩ := zfo A.hrows A.crow A.bytes.2.2.1 h3
 obtain ⟨m, rfl, hq⟩ := zfr (g := zhw.d) (Q := zhw.fit) fun y hy => A.dRow (hm y hy)
 exact ⟨⟨n, b, m⟩, rfl, hn, by simpa using hl, hq⟩
theorem dDef (h : zd2 P f A.dfn x) : ∃ w : zxr, x = w.d /\ w.fit := by
 obtain ⟨l, g, rfl, rfl, k⟩ := zc6 A.hdfn h
 obtain ⟨d1, r, rfl, h1, k⟩ := k.cons_inv
 obtain ⟨d2, r, rfl, h2, k⟩ := k.cons_inv
 obtain ⟨d3, r, rfl, h3, k⟩ := k.cons_inv
 obtain rfl := k.nil_inv
 obtain ⟨n, rfl, hn, _⟩ := zim A.hs h1
 obtain ⟨kk, rfl, hk⟩ := ztk A.hu8 h2
 obtain ⟨b, rfl⟩ := zku A.hb h3
 exact ⟨⟨n, kk, b⟩, rfl, hn, hk⟩
theorem dClause (h : zd2 P f A.clause x) : ∃ w : za2, x = w.d /\ w.fit := by
 obtain ⟨l, g, rfl, rfl, k⟩ := zc6 A.hclause h
 obtain ⟨d1, r, rfl, h1, k⟩ := k.cons_inv
 obtain ⟨d2, r, rfl, h2, k⟩ := k.cons_inv
 obtain ⟨d3, r, rfl, h3, k⟩ := k.cons_inv
 obtain ⟨d4, r, rfl, h4, k⟩ := k.cons_inv
 obtain ⟨d5, r, rfl, h5, k⟩ := k.cons_inv
 obtain ⟨d6, r, rfl, h6, k⟩ := k.cons_inv
 obtain ⟨d7, r, rfl, h7, k⟩ := k.cons_inv
 obtain ⟨d8, r, rfl, h8, k⟩ := k.cons_inv
 obtain rfl := k.nil_inv
 obtain ⟨n, rfl, hn, _⟩ := zim A.hs h1
 obtain ⟨l, rfl, hl, _⟩ := zim A.hs h2
 obtain ⟨a, rfl, ha⟩ := zg8 A.hi h3
 obtain ⟨b, rfl, hb⟩ := zg8 A.hi h4
 obtain ⟨c, rfl, hc⟩ := zg8 A.hi h5
 obtain ⟨o, rfl⟩ := zku A.hb h6
 obtain ⟨w, rfl, hw⟩ := A.dExpr _ _ h7
 obtain ⟨v, rfl, hv⟩ := A.dExpr _ _ h8
 exact ⟨⟨n, l, a, b, c, o, w, v⟩, rfl, hn, hl, ha, hb, hc, hw, hv⟩
theorem dPlan (h : zd2 P f A.plan x) : ∃ w : zi7, x = w.d /\ w.fit := by
 obtain ⟨l, g, rfl, rfl, k⟩ := zc6 A.hplan h
 obtain ⟨d1, r, rfl, h1, k⟩ := k.cons_inv
 obtain ⟨d2, r, rfl, h2, k⟩ := k.cons_inv
 obtain ⟨d3, r, rfl, h3, k⟩ := k.cons_inv
 obtain ⟨d4, r, rfl, h4, k⟩ := k.cons_inv
 obtain rfl := k.nil_inv
 obtain ⟨n, rfl, hn, _⟩ := zim A.hs h1
 obtain ⟨l2, g2, rfl, rfl, hl2, hm2⟩ := zfo A.hdfns A.cdfn A.bytes.2.2.2.2.1 h2
 obtain ⟨l3, g3, _, rfl, hl3, hm3⟩ := zfo A.htables A.ctable A.bytes.2.2.2.1 h3
 obtain ⟨l4, g4, _, rfl, hl4, hm4⟩ := zfo A.hclauses A.cclause A.bytes.2.2.2.2.2 h4
 obtain ⟨m2, rfl, hq2⟩ := zfr (g := zxr.d) (Q := zxr.fit) fun y hy => A.dDef (hm2 y hy)
 obtain ⟨m3, rfl, hq3⟩ := zfr (g := zb8.d) (Q := zb8.fit) fun y hy => A.dTable (hm3 y hy)
 obtain ⟨m4, rfl, hq4⟩ := zfr (g := za2.d) (Q := za2.fit) fun y hy => A.dClause (hm4 y hy)
 exact ⟨⟨n, m2, m3, m4⟩, rfl, ⟨hn, by simpa using hl2, by simpa using hl3, by simpa using hl4, hq2, hq3, hq4⟩⟩
end
end z19
end Go.Am
set_option maxRecDepth 100000
namespace Go.Am
open Go Go.RowKit Go.Proofs
section
variable {w : World}
theorem z8v (h : zcx w) : z18 (zrf w) := by
 obtain ⟨t, h⟩ := h.kinds
 have hb := (yaf.1 h).1
 have e : (zrf w).get 0 = some (.cells (zv4 (fun j => ((zzaz zd9).toArray[j]?).bind (z98 w.heap.size)) (zzaz zd9).toArray.size) (zzaz zd9).toArray.size none) := by
  unfold zrf; rw [zfg, if_pos (by omega), if_pos (by omega), h]
  rfl
 refine ⟨_, _, _, e, fun j a ha => ?_⟩
 rw [zfg, yax]; have hj : j < zoq.length := by
  have := (yad.1 ha).1
  simpa using this
 have hb2 : zoq.map zab.str = zd9.map fun b => zab.str (b.map UInt8.toNat) := zvi.symm
 rw [hb2, yav] at ha
 cases hbt : zd9[j]? with
 | none => rw [hbt] at ha; cases ha
 | some b =>
  rw [hbt] at ha; obtain rfl := Option.some.inj ha
  have hlt : j < zd9.length := (yad.1 hbt).1
  rw [if_pos (by simp [zzaz]; exact hlt)]
  simp only [zzaz, List.getElem?_toArray, yav, hbt, Option.map_some, Option.bind_some, z98]; simp [zbl]
theorem zzgr {b : Nat} {y : zam} (h : (zrf w).get b = some y) : b < 256 + w.heap.size := by
 unfold zrf at h; rw [zfg] at h; split at h
 ·assumption
 ·cases h
theorem zzhb {cs : List Value} (h : Has w.heap.size cs) : zby (muW w) (cs.map (av w.heap.size)) cs := by
 induction cs with
 | nil => exact .nil
 | cons v l ih => exact .cons (z14 (h v (by simp))) (ih fun u hu => h u (yas _ hu))
theorem z2j (hL : zcx w) (f : Nat) (args : List zab) (args' : Array Value) (hp : ∀ [zcg], C19.prims.get f = none) (hl : zby (muW w) args args'.toList)
  (h : ∀ [zcg], ∃ Q : zav, Wc C19 F f args (zrf w) Q /\ ∀ v t, Q v t -> v = .bool true) :
  Calls Tryz.prog f args' w fun e w' => e = .returned (.bool true) /\ Below w.heap.size w w' := by
 letI : zcg := ⟨w.heap.size⟩
 obtain ⟨Q, h1, h2⟩ := h
 refine (zzq (H := ⟨256 + w.heap.size, zrf w⟩) (sim19 hL.size) hL zzhx hp (yal _) (fun b y hb => zzgr hb) hrelW hl h1).mono fun e w' ⟨v, v', t', μ', g1, g2, g3, g4, g5⟩ => ?_
 have := h2 v t' g4
 subst this; rw [zaq] at g3; exact ⟨by rw [g1, g3], g5⟩
theorem zzbq {cs : Array Value} (h : Has w.heap.size cs.toList) : zaq (muW w) (.agg (cs.toList.map (av w.heap.size))) (.agg cs) := by
 rw [zaq]; exact ⟨cs, rfl, zzhb h⟩
end
end Go.Am
namespace Go.Am
open Go Go.RowKit Go.ChangeShapes Go.WideShapes Go.ChangeAt
section
variable {H : Type} {enc : TypeId × Value -> H} {P : Program}
theorem zl8 (hl : laidOutB P = true) {W W' : World} (hb : Below W.heap.size W W') : ∀ {ts : List TypeId} {vs : List Value} {ds : List (DataW H)} {ps : List MemPlace}, (∀ t ∈ ts, P.readableRec t = true /\ t < P.types.size) →
  DataW.TrodAll enc P W 0 (fun _ => true) true ts vs ds ps -> (∀ x ∈ ps, x.block < W.heap.size) -> DataW.TrodAll enc P W' 0 (fun b => decide (b < W.heap.size)) true ts vs ds ps
 | [], [], [], _, _, h, _ => h
 | t :: ts, _ :: _, _ :: _, _, ht, ⟨p, q, h1, h2, e⟩, hs => by
  subst e; exact ⟨p, q, Below.trod hl (ht t (by simp)).1 (ht t (by simp)).2 h1 hb fun x hx => hs x (List.mem_append_left _ hx),
   zl8 hl hb (fun t ht' => ht t (yas _ ht')) h2 fun x hx => hs x (ybg _ hx), rfl⟩
 | [], _ :: _, _, _, _, h, _ => by simp [DataW.TrodAll] at h
 | [], [], _ :: _, _, _, h, _ => by simp [DataW.TrodAll] at h
 | _ :: _, [], _, _, _, h, _ => by simp [DataW.TrodAll] at h
 | _ :: _, _ :: _, [], _, _, h, _ => by simp [DataW.TrodAll] at h
theorem law_post (hl : laidOutB P = true) {f : Func} {s : ChangeSpec} {tb : TypeId} (hp : ∀ t ∈ f.params.toList, P.readableRec t = true /\ t < P.types.size) (hv : s.vars = []) (hres : f.resultTypes = #[tb]) (htb : P.underlying tb = some .bool)
  {W W' : World} {args : Array Value} {ds gs : List (DataW H)} {before : List MemPlace} (hfn : s.fn H ds = { results := [.lit (.bool true)], args := ds })
  (hW : DataW.Whole enc P f.params.toList s.vars false W args.toList ds gs before) (hb : Below W.heap.size W W') :
  s.post enc P f false true false false W args (.bool true) W' := by
 have hW0 := hW
 obtain ⟨p, q, hA, hV, rfl, hfz, hnd⟩ := hW
 rw [hv] at hV; obtain ⟨rfl, rfl⟩ := trodVars_none hV
 refine ⟨ds, [], p ++ [], [], p, [], hW0, ?_, ?_, ?_, hb.frame _, fun h => by cases h⟩
 ·rw [ybe, hfn, hres]
  exact trodAll_mk1 (shut_bool htb _)
 ·rw [ybe, hfn]
  exact zl8 hl hb hp hA fun x hx => hW0.lt x (by simpa using hx)
 ·rw [ybe, hfn, hv]
  exact rfl
theorem z0t {a : Assume} {C : Checked} {os : Os} {f : FuncId} {fn : Func} {s : ChangeSpec} {conds : List PathCond} {apart fresh handsOn again : Bool} {X : World -> Array Value -> Prop}
  (hX : ∀ (w w' : World) (args : Array Value), w.heap = w'.heap -> X w args -> X w' args)
  (own : ownKnob C.prog.godebug = none) (started : os.Started) (noInit : C.prog.inits.idxOf? f = none) (hfn : C.prog.funcs[f]? = some fn)
  (witness : ∃ (w : World) (tape : Tape) (i : Input), w.os = os /\ (w.forCall tape i).Shaped C.prog /\ i.vars = [] /\ Input.okWide C.prog (w.forCall tape i) .any w.heap.size f i ∧
   ((s.pre enc C.prog fn conds apart (w.forCall tape i).memory i.args /\ X (w.forCall tape i).memory i.args) /\ sizedMet enc C.prog fn (OpenSpec.ofChange s) apart (w.forCall tape i).memory i.args) /\ a.holds C.prog (lone (Frame.enter C.prog f i.args .normal) [] (w.forCall tape i)))
  (contract : ∀ (W : World) (base : Nat) (args : Array Value) (ds gs : List (DataW H)) (before : List MemPlace),
   (∀ (j : Nat) t v, fn.params[j]? = some t -> args[j]? = some v -> Value.okWide C.prog W .any base t v) →
   DataW.Whole enc C.prog fn.params.toList s.vars apart W args.toList ds gs before →
   (DataW.weightsEach C.prog (fn.params.toList ++ s.plain.varTypes C.prog) (ds ++ gs)).all (· <= reachBytes) = true -> X W args -> W.ShapedOpen C.prog →
   Calls C.prog f args W fun e W' => ∃ v, e = .returned v /\ s.post enc C.prog fn apart fresh handsOn again W args v W') :
  ReturnsInHanded a C os f .any (fun w args => (s.pre enc C.prog fn conds apart w args /\ X w args) /\ sizedMet enc C.prog fn (OpenSpec.ofChange s) apart w args) (s.post enc C.prog fn apart fresh handsOn again) := by
 refine returnsInHanded_of_calls own started noInit witness ?_
 intro w tape i _ hsh _ hok hpre _; obtain ⟨_, _, _, fn', hfn', _, _, _, _, hval⟩ := hok
 have e : fn' = fn := Option.some.inj (hfn'.symm.trans hfn)
 subst e; obtain ⟨⟨⟨ds, gs, before, hw, hc⟩, hx⟩, hz⟩ := hpre
 have hw' := DataW.Whole.of_heap (w' := w.forCall tape i) (by rfl) hw
 refine (contract (w.forCall tape i) w.heap.size i.args ds gs before hval hw' (hz.weights hw) (hX _ _ _ (by rfl) hx) hsh).mono fun e W' ⟨v, he, hp⟩ => ?_
 subst he; exact ChangeSpec.post_blind hp
variable {w : World} {base : Nat} {spare : Nat -> Bool} {held : Bool} {fuel : Nat} {t e : TypeId} {cs : List Value} {ps : List MemPlace}
theorem zxi {α : Type} {g : α -> DataW H} {u : α -> Value} {l : List α} {n : Nat} (ht : P.underlying t = some (.array n e)) (hc : P.cellsOf e = 1) (hn : P.cellsOf t = n)
  (h1 : ∀ (m : Nat) (c : List Value) (x : DataW H × List MemPlace) (a : α), DataW.trod enc P w base spare held m e c = some x -> x.1 = g a -> c = [u a])
  (h : DataW.trod enc P w base spare held fuel t cs = some (.agg (l.map g), ps)) : cs = l.map u := by
 obtain ⟨xs, m, _, hx, hlen, hxs, hel⟩ := DataW.trod_array ht h
 simp only [Prod.mk.injEq, DataW.agg.injEq] at hx; have hl : l.length = n := by have := congrArg List.length hx.1; simp [hxs] at this; exact this
 rw [hn] at hlen; refine List.ext_getElem (by rw [hlen, yag, hl]) fun i hi1 hi2 => ?_
 have hi : i < n := by omega
 have := hel i hi
 rw [hc] at this; have hc1 : ((cs.drop (i * 1)).take 1) = [cs[i]] := by
  rw [Nat.mul_one, yam hi1]; rfl
 rw [hc1, yae (by omega)] at this
 have hxi : xs[i].1 = g (l[i]'(by omega)) := by
  have := congrArg (fun z => z[i]?) hx.1
  simp only [yav] at this; rw [yae (by omega), yae (by omega)] at this
  simpa using this.symm
 have := h1 m _ _ _ this hxi
 rw [List.getElem_map]; simpa using this
theorem zza0 (he : P.underlying e = some .string) (m : Nat) (c : List Value) (x : DataW H × List MemPlace) (b : List UInt8) (h : DataW.trod enc P w base spare held m e c = some x) (hx : x.1 = .lit (.string b)) : c = [.string ⟨b.toArray⟩] := by
 obtain ⟨s, rfl, rfl, _⟩ := DataW.trod_string he h
 simp at hx; rw [<- hx]
end
theorem joined_of {P : Program} {f : FuncId} {fn : Func} {s : ChangeSpec} {c : OpenClaim}
  (A : (c.wf (OpenSpec.ofChange s) && laidOutB P && mapsRowed P && fn.params.all (P.readableRec ·) && namedTie P c.named s.vars && (c.stops == []) && (P.stops == []) && (c.knobs == []) && (P.stopKnobs == [])) = true)
  (h1 : (c.inPlace == P.inPlace f) = true) (h2 : (c.unfollowed == P.unfollowed f) = true) (h3 : (c.recurses == P.recurses f) = true) (h4 : (c.named == P.varsNamed f) = true)
  (E : ((c.maps == (fn.params.toList ++ s.plain.varTypes P).any (P.mapsRec ·)) && (c.ifaces == (fn.params.toList ++ s.plain.varTypes P).any (P.ifacesRec ·)) && (c.mapsOut == P.mapsAmong fn.resultTypes.toList) &&
   (c.loops == (fn.params.toList ++ s.plain.varTypes P).any (P.loopsFrom ·)) && (c.wideKeys == (fn.params.toList ++ s.plain.varTypes P ++ fn.resultTypes.toList).any (P.wideKeysFrom ·)) &&
   s.vars.all (P.varReadable ·) && fn.resultTypes.all (fun t => P.readableRec t && decide (t < P.types.size)) && (c.ifacesOut == fn.resultTypes.toList.any (P.ifacesRec ·)) && (c.loopsOut == fn.resultTypes.toList.any (P.loopsFrom ·)) && c.shortTexts.isNone) = true)
  (h5 : (c.plainKeys == P.plainKeys) = true) (h6 : P.stopsHeard = true) (h7 : P.mayEnter = true) (h8 : (c.lifted == P.liftsFinal) = true)
  (R : ((P.make == some c.make) && (c.kinds == (if c.domain.isEmpty then [] else fn.params.toList.map fun t => match P.underlying t with | some (.int k) => some k | _ => none)) && (c.pinned == c.pinnedBy) &&
   (c.veiled == (fn.params.toList ++ s.plain.varTypes P ++ fn.resultTypes.toList).any (P.veiledRec ·)) && c.veiledFits P fn.params.toList (fn.params.toList ++ s.plain.varTypes P ++ fn.resultTypes.toList)) = true) :
  joinedFacts P f fn s c = true := by
 unfold joinedFacts; simp only [yac] at A E R ⊢
 obtain ⟨⟨⟨⟨⟨⟨⟨⟨a1, a2⟩, a3⟩, a4⟩, a5⟩, a6⟩, a7⟩, a8⟩, a9⟩ := A
 obtain ⟨⟨⟨⟨⟨⟨⟨⟨⟨e1, e2⟩, e3⟩, e4⟩, e5⟩, e6⟩, e7⟩, e8⟩, e9⟩, e10⟩ := E
 obtain ⟨⟨⟨⟨r1, r2⟩, r3⟩, r4⟩, r5⟩ := R
 exact ⟨⟨⟨⟨⟨⟨⟨⟨⟨⟨⟨⟨⟨⟨⟨⟨⟨⟨⟨⟨⟨⟨⟨⟨⟨⟨⟨⟨⟨⟨⟨a1, a2⟩, a3⟩, a4⟩, a5⟩, a6⟩, a7⟩, a8⟩, a9⟩, h1⟩, h2⟩, h3⟩, h4⟩, e1⟩, e2⟩, e3⟩, e4⟩, e5⟩, e6⟩, e7⟩, e8⟩, e9⟩, h5⟩, e10⟩, h6⟩, h7⟩, h8⟩, r1⟩, r2⟩, r3⟩, r4⟩, r5⟩
end Go.Am
namespace Go.Proofs.YthmbkdkibhffbaaGreatDoor
open Go Go.Am Go.RowKit Go.ChangeShapes Go.WideShapes Go.ChangeAt
theorem own : ownKnob Tryz.prog.godebug = none := by kernel_rfl
theorem laidOut : laidOutB Tryz.prog = true := by kernel_rfl
theorem gPow : Tryz.prog.globalNamed "internal/strconv.uint64pow10" = some 5 := by kernel_rfl
theorem gKinds : Tryz.prog.globalNamed "annuitant/operation.argumentKinds" = some 0 := by kernel_rfl
theorem tPow : (Tryz.prog.globals[5]?).map (·.type) = some 365 := by kernel_rfl
theorem tKinds : (Tryz.prog.globals[0]?).map (·.type) = some 273 := by kernel_rfl
def laid4 : List (String × DataW Unit) := [("math/bits.deBruijn32tab", Rows.laid_math_bits_deBruijn32tab), ("math/bits.deBruijn64tab", Rows.laid_math_bits_deBruijn64tab), ("internal/strconv.uint64pow10", Rows.laid_internal_strconv_uint64pow10), ("annuitant/operation.argumentKinds", Rows.laid_annuitant_operation_argumentKinds)]
theorem door_met (os : Os) (args : Array Value) : laidMetH Tryz.prog laid4 ((World.doorLaid Tryz.prog 60 os).forCall (fun _ _ => 0) ⟨#[], args, []⟩).memory :=
 laidMetH_of_parts3 (fuel := 8) (laidMet_of_run' 8 (by kernel_rfl) (by kernel_rfl)) (by kernel_rfl) (by kernel_rfl)
theorem zu8 {W : World} {n : String} {g : Nat} {cs : Array Value} (hg : Tryz.prog.globalNamed n = some g) (hv : W.var? Tryz.prog n = some cs) (hc : ∃ c t, W.heap[g]? = some (.cells c t (0, 0))) : ∃ t, W.heap[g]? = some (.cells cs t (0, 0)) := by
 obtain ⟨c, t, hc⟩ := hc
 unfold World.var? at hv
 rw [hg] at hv; simp only [Option.bind_some, hc, Option.some.injEq] at hv; subst hv; exact ⟨t, hc⟩
theorem z6j {g n : Nat} {p q : List MemPlace} (h : 0 < n) : MemPlace.cell g 0 ∈ MemPlace.row ⟨g, 0, none⟩ n ++ p ++ q :=
 List.mem_append_left _ (List.mem_append_left _ (List.mem_map.2 ⟨0, List.mem_range.2 h, rfl⟩))
theorem z7y : Rows.laid_annuitant_operation_argumentKinds (H := Unit) = .agg (zd9.map fun b => .lit (.string b)) := by kernel_rfl
theorem zzgx : Rows.laid_internal_strconv_uint64pow10 (H := Unit) = .agg (zlk.map fun n => .lit (.int .u64 n)) := by kernel_rfl
theorem zzao {H : Type} {enc : TypeId × Value -> H} {P : Program} {w : World} {base : Nat} {spare : Nat -> Bool} {held : Bool} {e : TypeId} (he : P.underlying e = some (.int .u64)) (m : Nat) (c : List Value) (x : DataW H × List MemPlace) (n : Int) (h : DataW.trod enc P w base spare held m e c = some x) (hx : x.1 = .lit (.int .u64 n)) : c = [.int .u64 n] := by
 obtain ⟨k, rfl, rfl, _⟩ := DataW.trod_int he h
 simp at hx; rw [hx]
theorem laid_of {W : World} (h : laidMetH Tryz.prog laid4 W) (hsh : W.ShapedOpen Tryz.prog) : zcx W := by
 rw [MakeChecks.laidMetH_plain _ _ _ (by kernel_rfl)] at h
 obtain ⟨ps, ⟨_, _, _, _, _, _, _, _, _, _, ⟨_, _, _, _, _, _, _, _, _, _, ⟨g0, t0, cs0, f0, p0, q0, hg0, ht0, hv0, hd0, ⟨g1, t1, cs1, f1, p1, q1, hg1, ht1, hv1, hd1, _, hp1⟩, hp0⟩, hpb⟩, hpa⟩, _, hcell⟩ := h
 obtain rfl := Option.some.inj (gPow.symm.trans hg0)
 obtain rfl := Option.some.inj (gKinds.symm.trans hg1)
 obtain rfl := Option.some.inj (tPow.symm.trans ht0)
 obtain rfl := Option.some.inj (tKinds.symm.trans ht1)
 have c56 : Tryz.prog.cellsOf 56 = 1 := by kernel_rfl
 have c9 : Tryz.prog.cellsOf 9 = 1 := by kernel_rfl
 have c365 : Tryz.prog.cellsOf 365 = 20 := by kernel_rfl
 have c273 : Tryz.prog.cellsOf 273 = 27 := by kernel_rfl
 rw [zzgx] at hd0; rw [z7y] at hd1; have e0 : cs0.toList = u64s zlk := zxi (l := zlk) (g := fun n => .lit (.int .u64 n)) (u := fun n => .int .u64 n) Tryz.underlying365 c56 c365 (fun m c x a => zzao Tryz.underlying56 m c x a) hd0
 have e1 : cs1.toList = zzaz zd9 := zxi (l := zd9) (g := fun b => .lit (.string b)) (u := fun b => .string ⟨b.toArray⟩) Tryz.underlying273 c9 c273 (fun m c x a => zza0 Tryz.underlying9 m c x a) hd1
 have s0 : cs0 = (u64s zlk).toArray := by rw [<- e0]
 have s1 : cs1 = (zzaz zd9).toArray := by rw [<- e1]
 subst s0 s1
 have m0 : MemPlace.cell 5 0 ∈ ps := by
  rw [hpa, hpb, hp0]; exact ybg _ (ybg _ (z6j (by decide)))
 have m1 : MemPlace.cell 0 0 ∈ ps := by
  rw [hpa, hpb, hp0, hp1]; exact ybg _ (ybg _ (ybg _ (z6j (by decide))))
 exact ⟨zu8 hg1 hv1 (hcell 0 0 m1).1, Tryz.laysM144.s1_3 W hsh, zu8 hg0 hv0 (hcell 5 0 m0).1⟩
theorem stopsHeard : Tryz.prog.stopsHeard = true := by kernel_rfl
theorem mayEnter : Tryz.prog.mayEnter = true := by kernel_rfl
theorem bool4 : Tryz.prog.underlying 4 = some .bool := Tryz.underlying4
def api19 : z19 Tryz.prog := {
 b := 4, i := 3, u8 := 5, u16 := 227, s := 9, limbs := 41, whole := 43, frac := 45, val := 47, expr := 50, exprs := 48, row := 85, rows := 80, table := 82, tables := 23, dfn := 79, dfns := 22, clause := 52, clauses := 24, plan := 26,
 hb := Tryz.underlying4, hi := Tryz.underlying3, hu8 := Tryz.underlying5, hu16 := Tryz.underlying227, hs := Tryz.underlying9, hlimbs := Tryz.underlying41, hexprs := Tryz.underlying48, hrows := Tryz.underlying80, htables := Tryz.underlying23, hdfns := Tryz.underlying22, hclauses := Tryz.underlying24,
 hwhole := ⟨_, Tryz.underlying43, rfl⟩, hfrac := ⟨_, Tryz.underlying45, rfl⟩, hval := ⟨_, Tryz.underlying47, rfl⟩, hexpr := ⟨_, Tryz.underlying50, rfl⟩, hrow := ⟨_, Tryz.underlying85, rfl⟩, htable := ⟨_, Tryz.underlying82, rfl⟩, hdfn := ⟨_, Tryz.underlying79, rfl⟩, hclause := ⟨_, Tryz.underlying52, rfl⟩, hplan := ⟨_, Tryz.underlying26, rfl⟩,
 cu16 := by kernel_rfl, cexpr := by kernel_rfl, crow := by kernel_rfl, ctable := by kernel_rfl, cdfn := by kernel_rfl, cclause := by kernel_rfl,
 bytes := ⟨of_decide_eq_true (by kernel_rfl), of_decide_eq_true (by kernel_rfl), of_decide_eq_true (by kernel_rfl), of_decide_eq_true (by kernel_rfl), of_decide_eq_true (by kernel_rfl), of_decide_eq_true (by kernel_rfl)⟩ }
def z01 : List Nat := [4, 3, 5, 227, 9, 41, 43, 45, 47, 50, 48, 85, 80, 82, 23, 79, 22, 52, 24, 26]
def partB (t : TypeId) : Bool := match Tryz.prog.underlying t with
 | some .bool => true
 | some (.int _) => true
 | some .string => true
 | some (.slice e) => z01.contains e && Nat.blt 0 (Tryz.prog.cellsOf e)
 | some (.struct fs) => fs.toList.all (fun f => z01.contains f.type) && z2m Tryz.prog 0 fs.toList (Tryz.prog.cellsOf t)
 | _ => false
theorem zyq : z01.all partB = true := by kernel_rfl
theorem zzgc : Plain Tryz.prog (fun t => t ∈ z01) := ⟨fun t ht => by
 have h := ybc.1 zyq t ht
 unfold partB at h
 cases hu : Tryz.prog.underlying t with
 | none => rw [hu] at h; cases h
 | some d =>
  rw [hu] at h
  cases d with
  | bool => trivial
  | int k => trivial
  | string => trivial
  | slice e =>
   simp only [yac] at h; exact ⟨by simpa using h.1, by simpa using h.2⟩
  | struct fs =>
   simp only [yac] at h; exact ⟨fun f hf => by simpa using ybc.1 h.1 f hf, h.2⟩
  | _ => cases h⟩
theorem open_plan {H : Type} {enc : TypeId × Value -> H} {W : World} {base : Nat} {v : Value} {d : DataW H} {ps : List MemPlace} (hL : zcx W) (hok : Value.okWide Tryz.prog W .any base 26 v) (h : DataW.Trod enc Tryz.prog W 0 (fun _ => true) true 26 v d ps) (hw : (DataW.weights Tryz.prog 26 d).all (· <= reachBytes) = true) :
  ∃ (cs : Array Value) (p : zi7), v = .agg cs /\ p.fit /\ Has W.heap.size cs.toList /\ RD (zrf W) p.d (cs.toList.map (av W.heap.size)) := by
 obtain ⟨cs, rfl, _, _⟩ : ∃ cs, v = .agg cs /\ cs.size = Tryz.prog.cellsOf 26 /\ Row.okWide Tryz.prog W .any base 26 cs := by
  unfold Value.okWide at hok; rw [Tryz.underlying26] at hok; exact hok
 obtain ⟨fuel, h⟩ := h
 obtain ⟨c, n, lo, hc, _⟩ := z8v hL
 obtain ⟨h1, x, h2, h3⟩ := zzf8 zzgc ⟨c, n, lo, hc⟩ fuel 26 cs.toList (d, ps) (by decide) h hw
 obtain ⟨p, rfl, hp⟩ := api19.dPlan h3
 exact ⟨cs, p, rfl, hp, h1, h2⟩
end Go.Proofs.YthmbkdkibhffbaaGreatDoor
namespace Go.Am
section
variable {key : zc3 -> List Nat} {valid : zc3 -> Bool}
def zmk (i : XIns) : Bool := !(i.op == 9) && !(i.op == 13)
def zf7 (l : List XIns) : Bool := l.all zmk
theorem zw3 {f g : Tr1} {skip : Nat} {truth : Int} {s : Nt} {p : Nat} : zf7 (zo1 key f g skip truth s p).2 = false /\ 1 <= (zo1 key f g skip truth s p).2.length := by
 unfold zo1 zf7; constructor
 ·simp only [List.all_append, ybh, List.all_nil]
  simp [zmk]
 ·simp; omega
theorem zzg8 {f g h : Tr1} {s : Nt} {p : Nat} : zf7 (ifT f g h s p).2 = false /\ 1 <= (ifT f g h s p).2.length := by
 unfold ifT zf7; constructor
 ·simp only [List.all_append, ybh]
  simp [zmk]
 ·simp; omega
def Str (f : Tr1) (n : Nat) : Prop := ∀ s p, 1 <= (f s p).2.length /\ (zf7 (f s p).2 = true -> (f s p).2.length = n)
theorem z57 : ∀ (l : List zal), (∀ x ∈ l, Str (trX key valid x) (zbb x)) -> ∀ s p, zf7 (zi8 (trF key valid l) s p).2 = true -> (zi8 (trF key valid l) s p).2.length = zc8 l
 | [], _, s, p => by simp [trF, zi8, zc8]
 | x :: l, h, s, p => by
  intro hp; have hp' : zf7 ((trX key valid x s p).2 ++ (zi8 (trF key valid l) (trX key valid x s p).1 (p + (trX key valid x s p).2.length)).2) = true := hp
  unfold zf7 at hp'; rw [List.all_append, yac] at hp'
  have h1 := (h x (by simp) s p).2 hp'.1
  have h2 := z57 l (fun y hy => h y (by simp [hy])) _ _ hp'.2
  show ((trX key valid x s p).2 ++ (zi8 (trF key valid l) (trX key valid x s p).1 (p + (trX key valid x s p).2.length)).2).length = zbb x + zc8 l
  rw [yah, h2, h1]
mutual
theorem z44 : ∀ (x : zal), Str (trX key valid x) (zbb x)
 | .mk op name v args => by
  have ih := z45 args
  intro s p; unfold trX zbb zq6; by_cases h0 : zds valid op v (trF key valid args).length = false
  ·simp only [if_pos h0]
   exact ⟨by simp, fun h => by simp [zf7, zmk] at h⟩
  ·simp only [if_neg h0]
   have h0 : zds valid op v (trF key valid args).length = true := by simpa using h0
   rw [zto] at h0; have hn := h0
   unfold zds at hn; simp only [yac, decide_eq_true_eq] at hn; by_cases h15 : op = 15
   ·simp only [if_pos h15]
    subst h15; have : args.length = 2 := by have h1 := hn.1.2; have h2 := hn.2; simp [zrc] at h1 h2; omega
    match args, this with
    | [a, b], _ =>
     have := zw3 (key := key) (f := trX key valid a) (g := trX key valid b) (skip := 10) (truth := 0) (s := s) (p := p)
     simp only [trF]; exact ⟨this.2, fun h => by rw [this.1] at h; cases h⟩
   ·simp only [if_neg h15]
    by_cases h16 : op = 16
    ·simp only [if_pos h16]
     subst h16; have : args.length = 2 := by have h1 := hn.1.2; have h2 := hn.2; simp [zrc] at h1 h2; omega
     match args, this with
     | [a, b], _ =>
      have := zw3 (key := key) (f := trX key valid a) (g := trX key valid b) (skip := 11) (truth := 1) (s := s) (p := p)
      simp only [trF]; exact ⟨this.2, fun h => by rw [this.1] at h; cases h⟩
    ·simp only [if_neg h16]
     by_cases h18 : op = 18
     ·simp only [if_pos h18]
      subst h18; have : args.length = 3 := by have h1 := hn.1.2; have h2 := hn.2; simp [zrc] at h1 h2; omega
      match args, this with
      | [a, b, c], _ =>
       have := zzg8 (f := trX key valid a) (g := trX key valid b) (h := trX key valid c) (s := s) (p := p)
       simp only [trF]; exact ⟨this.2, fun h => by rw [this.1] at h; cases h⟩
     ·simp only [if_neg h18]
      refine ⟨by simp, fun h => ?_⟩
      unfold zf7 at h; rw [List.all_append, yac] at h; rw [yah, z57 args ih s p h.1, List.length_singleton, Nat.add_comm]
theorem z45 : ∀ (l : List zal), ∀ x ∈ l, Str (trX key valid x) (zbb x)
 | [], x, h => by cases h
 | y :: l, x, h => by
  rcases yat.1 h with e | h
  ·rw [e]; exact z44 y
  ·exact z45 l x h
end
end
end Go.Am
namespace Go.Proofs
open Go Go.Am
variable [zcg]
variable {t tf : Tr zam}
def zX : List zab := [(.int .u8 0), (.str []), (.int .u8 0), (.bool false), .nilslice, (.bool false), .nilslice, (.int .i64 0), .nilslice]
theorem zzbh {l : List zab} (h : ∀ a ∈ l, ∀ d, same d a a = true) : same 10 (.agg l) (.agg l) = true := by
 show same.sames 9 l l = true
 induction l with
 | nil => rfl
 | cons a l ih =>
  show (same 9 a a && same.sames 9 l l) = true
  rw [h a (by simp) 9, ih fun b hb => h b (by simp [hb])]; rfl
theorem zvu {x : zal} {a b c : zab} (h : RD t x.d (zcq x a b c)) : same 10 (.agg (zcq x a b c)) (.agg (zcq x a b c)) = true := by
 obtain ⟨a1, b1, c1, e, h1, h2, h3⟩ := zfa h
 cases e
 refine zzbh fun y hy d => ?_
 simp only [zcq, yat, List.not_mem_nil, or_false] at hy; rcases hy with rfl | rfl | rfl | rfl | rfl | rfl | rfl | rfl | rfl
 ·exact zd6
 ·exact zmf
 ·exact zd6
 ·exact zp4
 ·exact h1.same
 ·exact zp4
 ·exact h2.same
 ·exact zd6
 ·exact h3.same
theorem zny {x : zal} {cs : List zab} (h : RD t x.d cs) : ∃ a b c, cs = zcq x a b c /\ zrd zX (.agg cs) = some (cellsOf cs) /\ zd1 zab.one cs = true := by
 have hz := zko h x.zs
 obtain ⟨a, b, c, rfl, h1, h2, h3⟩ := zfa h
 exact ⟨a, b, c, rfl, hz, zo6 h1.one h2.one h3.one⟩
theorem zzfn {l : List za2} {v : zab} (hv : RSl t 24 (l.map za2.d) v) {i : Nat} {x : za2} (hx : l[i]? = some x) :
  ∃ p off, zaf C19 24 v (.int .i64 (i : Int)) = some (.ptr p off) ∧
   (∃ cs, zaj C19 52 6 (.ptr p off) = some (.ptr p (off + 6)) /\ zap C19 50 ⟨0, t⟩ (.ptr p (off + 6)) = some (.agg cs) /\ RD t x.when_.d cs) ∧
   (∃ cs, zaj C19 52 7 (.ptr p off) = some (.ptr p (off + 15)) /\ zap C19 50 ⟨0, t⟩ (.ptr p (off + 15)) = some (.agg cs) /\ RD t x.then_.d cs) := by
 obtain ⟨p, off, cs, g1, g2, g3, g4, g5⟩ := zj2.at sl24 (by simp) hv (i := i) (d := x.d) (by simp [hx])
 obtain ⟨a, b, c, a', b', c', rfl, h1, h2⟩ := zmj g5
 refine ⟨p, off, g1, ⟨_, by kernel_rfl, ?_, h1⟩, ⟨_, by kernel_rfl, ?_, h2⟩⟩
 ·have := g3.load (j := 6) (n := 9) zzap rfl rfl (by show 6 + 9 <= 24; decide)
  rw [this]; rfl
 ·have := g3.load (j := 15) (n := 9) zzap rfl rfl (by show 15 + 9 <= 24; decide)
  rw [this]; rfl
mutual
theorem z03 : ∀ (x : zal) (cs : List zab), x.ok -> zbb x < 1125899906842624 -> RD t x.d cs -> pvC C19 F 31 [.agg cs] t = some (.int .i64 (zbb x : Int))
 | .mk op name v args, cs, hx, hn, h => by
  obtain ⟨a, b, c, rfl, ha, hb, hc⟩ := zfa h
  simp only [zal.op, zal.name, zal.v, zal.args] at ha hb hc ⊢
  have hx' := hx
  unfold zal.ok at hx'; unfold zbb at hn ⊢
  refine zbj.2 (w31 _ _ _ _ _ _ _ _ _ ?_)
  simp only [t31, wpT, hc.len, zaa, zag, yag]; exact zso args args c 0 1 hc rfl hx'.2.2.2 hx'.2.2.1 (by omega)
theorem zso : ∀ (l args : List zal) (d : zab) (i n : Nat), RSl t 9 (args.map zal.d) d -> args.drop i = l -> zal.oks l -> args.length < zgc -> n + zc8 l < 1125899906842624 →
  jp 31 2 [.int .i64 (n : Int), d, .int .i64 (args.length : Int), .int .i64 (i : Int)] t (fun v' t' => v' = .int .i64 ((n + zc8 l : Nat) : Int) /\ t' = t)
 | [], args, d, i, n, hd, hl, hok, hsz, hn => by
  have := zkj hl
  refine j31_2 _ _ _ _ ?_
  simp only [zzf0, wpT, zaw]; rw [if_neg (by omega)]
  unfold zc8; simp
 | x :: l, args, d, i, n, hd, hl, hok, hsz, hn => by
  obtain ⟨h1, h2, h3⟩ := zi2 hl
  have hok' := hok
  unfold zal.oks at hok'; unfold zc8 at hn ⊢
  unfold zgc at hsz; obtain ⟨b, off, a1, b1, c1, g1, g2, g3, g4, g5, g6, g7⟩ := zun hd h1
  refine j31_2 _ _ _ _ ?_
  simp only [zzf0, wpT, zaw]; rw [if_pos (by omega), g1, zaa, g2, zaa, g4, zaa]
  simp only [zcq, cellsOf, zhu, zc2, zet, zht, yaa, yab]; refine zbn (zo6 g5.one g6.one g7.one) ?_
  have hp := z03 x _ hok'.1 (by omega) g3
  unfold zcq at hp; rw [q31, hp, zaa, zag, zaa, zak (n := (n : Int) + (zbb x : Int)) (by omega) (by omega), zak (n := (i : Int) + 1) (by omega) (by omega)]
  have := zso l args d (i + 1) (n + zbb x) hd h2 hok'.2 hsz (by omega)
  rw [show (n : Int) + (zbb x : Int) = ((n + zbb x : Nat) : Int) by omega, show (i : Int) + 1 = ((i + 1 : Nat) : Int) by omega]
  rw [show n + (zbb x + zc8 l) = n + zbb x + zc8 l by omega]
  exact this
end
end Go.Proofs
namespace Go.Proofs
open Go Go.Am
variable [zcg]
variable {t tf : Tr zam}
structure z99 (code : List XIns) (n : Nat) : Prop where
 pos : 1 <= code.length
 four : code.length <= 4 * n
 most : code.length <= 1000
 parts : n < 1000000
 str : zf7 code = true -> code.length = n
 ops : ∀ i ∈ code, i.op < 256
theorem zzbc {code : List XIns} {v7 : zab} {n i : Nat} {nm nm' : List Nat} {a b c a' b' c' vn vc vw vt : zab} {Q : zav} (hv : RSl t 3 (code.map XIns.d) v7) (hc : z99 code n) (hi : i < 1000000)
  (hQ : jp 10 2 [.int .i64 ((i + 1 : Nat) : Int), .str nm, a, b, c, .str nm', a', b', c', vn, vc, vw, vt] t Q) : ∀ (m k : Nat) (s : Bool), k + m = code.length -> (s && zf7 (code.drop k)) = zf7 code →
   jp 10 6 [.int .i64 (i : Int), v7, .int .i64 (n : Int), .bool s, .int .i64 (k : Int), .str nm, a, b, c, .str nm', a', b', c', vn, vc, vw, vt] t Q := by
 have h1 := hc.most
 have h2 := hc.pos
 have h3 := hc.four
 have h4 := hc.parts
 intro m; induction m with
 | zero =>
  intro k s hk hs; rw [yau (by omega)] at hs
  have hs : s = zf7 code := by rw [<- hs]; simp [zf7]
  refine j10_6 _ _ _ _ _ _ _ _ _ _ _ _ _ _ _ _ _ ?_
  simp only [zzf4, wpT, hv.len, zaa, zag, yag]; refine zfe (fun e => absurd (zaw.1 e) (by omega)) (zfe (fun e => absurd (zaw.1 e) (by omega)) ?_)
  rw [zak (n := 4 * (n : Int)) (by omega) (by omega), zak (n := (i : Int) + 1) (by omega) (by omega), show (i : Int) + 1 = ((i + 1 : Nat) : Int) by omega]
  refine zfe (fun e => absurd (zaw.1 e) (by omega)) ?_
  cases s with
  | true =>
   have := hc.str hs.symm
   exact zbn rfl (zfe (fun e => absurd (show (code.length : Int) = n by omega) (zfq.1 e)) (zfe (fun e => absurd (zaw.1 e) (by omega)) hQ))
  | false => exact zfe (by simp) (zfe (fun e => absurd (zaw.1 e) (by omega)) hQ)
 | succ m ih =>
  intro k s hk hs; have hlt : k < code.length := by omega
  have hx : code[k]? = some code[k] := yae hlt
  have hop := hc.ops _ (List.getElem_mem hlt)
  obtain ⟨q, off, g1, g2, g3, g4, g5, g6, g7, g8⟩ := ins_at hv hx
  rw [yam hlt] at hs; have hs' : (s && (zmk code[k] && zf7 (code.drop (k + 1)))) = zf7 code := hs
  refine j10_6 _ _ _ _ _ _ _ _ _ _ _ _ _ _ _ _ _ ?_
  simp only [zzf4, wpT, hv.len, zaa, zag, yag, g1, g3, g6]; rw [zak (n := (k : Int) + 1) (by omega) (by omega), show (k : Int) + 1 = ((k + 1 : Nat) : Int) by omega]
  refine zbn (zaw.2 (by omega)) ?_
  cases s with
  | false => exact zfe (by simp) (ih (k + 1) false (by omega) (by rw [<- hs']; simp))
  | true =>
   refine zbn rfl ?_
   by_cases h9 : code[k].op = 9
   ·refine zfe (fun e => absurd (show ((code[k].op : Nat) : Int) = 9 by omega) (zfq.1 e)) (ih (k + 1) false (by omega) ?_)
    rw [<- hs']; simp [zmk, h9]
   ·refine zbn (zfq.2 (by omega)) ?_
    have e : (!iEq ((code[k].op : Nat) : Int) 13) = zmk code[k] := by
     by_cases h13 : code[k].op = 13
     ·rw [zda.2 (show ((code[k].op : Nat) : Int) = 13 by omega)]; simp [zmk, h13]
     ·rw [zfq.2 (show ((code[k].op : Nat) : Int) ≠ 13 by omega)]
      simp [zmk, h13, h9]
    rw [e]; refine ih (k + 1) _ (by omega) ?_
    rw [<- hs']; simp
theorem zw5 : ∀ {l : List za2} {s : Nt} {j : Nat} {x : za2}, l[j]? = some x -> ∃ s1 s2, (trC za9 zao l s).2[j]? = some ((trX za9 zao x.when_ s1 0).2, (trX za9 zao x.then_ s2 0).2)
 | [], s, j, x, h => by simp at h
 | y :: l, s, 0, x, h => by
  obtain rfl : y = x := by simpa using h
  exact ⟨_, _, by simp only [trC, yaa]; rfl⟩
 | y :: l, s, j + 1, x, h => by
  obtain ⟨s1, s2, h2⟩ := zw5 (l := l) (s := (trX za9 zao y.then_ (trX za9 zao y.when_ s 0).1 0).1) (j := j) (by simpa using h)
  exact ⟨s1, s2, by simp only [trC, yab]; exact h2⟩
theorem zw4 : ∀ (l : List za2) (s : Nt), (trC za9 zao l s).2.length = l.length
 | [], s => rfl
 | x :: l, s => by simp [trC, zw4 l]
theorem zsc {x : zal} {s : Nt} (hx : x.fit) (hb : zme x = true) : z99 (trX za9 zao x s 0).2 (zbb x) := by
 have h1 := (zed (key := za9) (valid := zao) x s 0).1
 have h2 := zhb hb
 obtain ⟨h3, h4⟩ := z44 (key := za9) (valid := zao) x s 0
 exact ⟨h3, h1, by omega, by omega, h4, fun i hi => by have := (zz8 x hx s 0 i hi).1; omega⟩
theorem z0m {x : zal} {code : List XIns} {u : zab} {cs : List zab} {q i : Nat} {nm nm' : List Nat} {a b c a' b' c' vn vc vw vt : zab} {Q : zav} (ht : TLe tf t) (hcel : Cel t q none cs) (hrd : RD tf x.d cs) (hx : x.ok) (hu : RSl tf 3 (code.map XIns.d) u)
  (hc : z99 code (zbb x)) (hi : i < 1000000) (hQ : jp 10 2 [.int .i64 ((i + 1 : Nat) : Int), .str nm, a, b, c, .str nm', a', b', c', vn, vc, vw, vt] t Q) :
  jp 10 29 [.int .i64 (i : Int), .ptr q 0, u, .str nm, a, b, c, .str nm', a', b', c', vn, vc, vw, vt] t Q := by
 have hp := z03 x cs hx (by have := hc.parts; omega) (RD.mono ht _ _ hrd)
 obtain ⟨a1, b1, c1, rfl, hz, hone⟩ := zny (RD.mono ht _ _ hrd)
 have hl := hcel.at.load (C := C19) (j := 0) (n := 9) zzap rfl rfl (by show 0 + 9 <= 9; decide)
 have hl : zap C19 50 ⟨0, t⟩ (.ptr q 0) = some (.agg (zcq x a1 b1 c1)) := hl
 refine j10_29 _ _ _ _ _ _ _ _ _ _ _ _ _ _ _ ?_
 simp only [zzd1, wpT]; unfold zX at hz; rw [hl, zaa, hz, zaa]; simp only [zcq, cellsOf, zhu, zc2, zet, zht, yaa, yab]; unfold zcq at hp; rw [q31, hp, zaa, zag, zaa]
 exact zzbc (hu.mono ht) hc hi hQ code.length 0 true (by omega) (by simp)
theorem zzcp (ht : TLe tf t) {b : Nat} (h : t.get b = none) : tf.get b = none := by
 cases hb : tf.get b with
 | none => rfl
 | some y => rw [ht b y hb] at h; cases h
theorem z2q {p : zi7} {nm nm' : List Nat} {a b vc0 a' b' c' vn vc vw vt : zab} (hp : p.fit) (hb : ∀ x ∈ p.clauses, zf1 x = true) (hn : p.clauses.length <= 400) (hcl : RSl tf 24 (p.clauses.map za2.d) vc0) (hw : RSl tf 1 ((zdz p).2.map fun q => zc1 q.1) vw) (ht : RSl tf 1 ((zdz p).2.map fun q => zc1 q.2) vt) :
  ∀ (m j : Nat) (t : Tr zam), j + m = 2 * p.clauses.length -> TLe tf t -> jp 10 2 [.int .i64 (j : Int), .str nm, a, b, vc0, .str nm', a', b', c', vn, vc, vw, vt] t (fun v _ => v = .bool true) := by
 have hcs : (zdz p).2.length = p.clauses.length := zw4 _ _
 have hw' : RSl tf 1 (((zdz p).2.map Prod.fst).map zc1) vw := by rw [List.map_map]; exact hw
 have ht' : RSl tf 1 (((zdz p).2.map Prod.snd).map zc1) vt := by rw [List.map_map]; exact ht
 intro m; induction m with
 | zero =>
  intro j t hj hl; refine j10_2 _ _ _ _ _ _ _ _ _ _ _ _ _ ?_
  have hlen : za8 vw = some (.int .i64 (p.clauses.length : Int)) := by rw [(hw.mono hl).len, yag, hcs]
  simp only [zzf5, wpT]; rw [hlen, zaa, zag, zaa, zak (by omega) (by omega)]
  exact zfe (fun e => absurd (zaw.1 e) (by omega)) (by trivial)
 | succ m ih =>
  intro j t hj hl; have hlt : j / 2 < p.clauses.length := by omega
  have hx : p.clauses[j / 2]? = some p.clauses[j / 2] := yae hlt
  obtain ⟨s1, s2, hcx⟩ := zw5 (s := ⟨[], []⟩) hx
  have hcx : (zdz p).2[j / 2]? = _ := hcx
  have hxb := hb _ (List.getElem_mem hlt)
  unfold zf1 at hxb; rw [yac] at hxb; have hxf := hp.clauses _ (List.getElem_mem hlt)
  have hwf := hxf.2.2.2.2.2.1
  have htf := hxf.2.2.2.2.2.2
  obtain ⟨q, off, i1, ⟨cw, i2, i3, i4⟩, ⟨ct, i5, i6, i7⟩⟩ := zzfn hcl hx
  obtain ⟨p1, o1, u1, w1, w2, w3⟩ := zq0 hw' hl (i := j / 2) (by rw [yav, hcx]; rfl)
  obtain ⟨p2, o2, u2, z1, z2, z3⟩ := zq0 ht' hl (i := j / 2) (by rw [yav, hcx]; rfl)
  have e2 : Int.tdiv (j : Int) 2 = ((j / 2 : Nat) : Int) := by rw [Int.tdiv_eq_ediv_of_nonneg (by omega)]; rfl
  have e3 : Int.tmod (j : Int) 2 = ((j % 2 : Nat) : Int) := by rw [Int.tmod_eq_emod_of_nonneg (by omega)]; rfl
  have hlen : za8 vw = some (.int .i64 (p.clauses.length : Int)) := by rw [(hw.mono hl).len, yag, hcs]
  have ld : ∀ {t' : Tr zam}, TLe tf t' -> ∀ {T : Nat} {a v : zab}, zap C19 T ⟨0, tf⟩ a = some v -> zap C19 T ⟨0, t'⟩ a = some v := fun h _ _ _ e => zd0 (H := ⟨0, tf⟩) (fun _ _ k => h _ _ k) e
  have w2f : ∀ {t' : Tr zam}, TLe tf t' -> zap C19 37 ⟨0, t'⟩ (.ptr p1 o1) = some u1 := fun h => by
   obtain ⟨p1', o1', u1', w1', w2', _⟩ := zq0 hw' h (i := j / 2) (by rw [yav, hcx]; rfl)
   obtain ⟨p3, o3, u3, w13, w23, _⟩ := zq0 hw' (TLe.refl tf) (i := j / 2) (by rw [yav, hcx]; rfl)
   rw [w1] at w13; cases w13
   have := ld hl w23
   rw [w2] at this; cases this
   exact ld h w23
  have z2f : ∀ {t' : Tr zam}, TLe tf t' -> zap C19 37 ⟨0, t'⟩ (.ptr p2 o2) = some u2 := fun h => by
   obtain ⟨p3, o3, u3, w13, w23, _⟩ := zq0 ht' (TLe.refl tf) (i := j / 2) (by rw [yav, hcx]; rfl)
   rw [z1] at w13; cases w13
   have := ld hl w23
   rw [z2] at this; cases this
   exact ld h w23
  have su1 : same 10 u1 u1 = true := w3.same
  have su2 : same 10 u2 u2 = true := z3.same
  obtain ⟨aw, bw, dw, rfl, hzw, how⟩ := zny i4
  obtain ⟨at1, bt1, dt1, rfl, hzt, hot⟩ := zny i7
  refine j10_2 _ _ _ _ _ _ _ _ _ _ _ _ _ ?_
  simp only [zzf5, wpT]; rw [hlen, zaa, zag, zaa, zak (n := 2 * (p.clauses.length : Int)) (by omega) (by omega)]
  refine zbn (zaw.2 (by omega)) ?_
  unfold zX at hzw hzt; rw [e2, zak (by omega) (by omega), i1, zaa, i2, zaa, ld hl i3, zaa, hzw, zaa, w1, zaa, w2, zaa]
  intro n hn hnb; obtain ⟨t1, a1, a2, a3, a4⟩ := zm6 (C := C19) zzap hn
  have ht1 : TLe tf t1 := hl.trans a3
  have hfn : tf.get n = none := zzcp hl hn
  rw [a1, zaa]; refine zbn hcl.same ?_
  rw [ld ht1 i3, zaa]; simp only [cellsOf, zcq, zhu, zc2, zet, zht, yaa, yab]; have sw := zvu i4
  have st := zvu i7
  unfold zcq at sw st; refine zbn sw (zbn hw.same ?_)
  rw [w2f ht1, zaa]; refine zbn su1 ?_
  intro n2 _ _; obtain ⟨t2, b1, b2, b3⟩ := a2.store (C := C19) hnb (j := 0) (v := .agg (zcq p.clauses[j / 2].when_ aw bw dw)) zzap rfl (by show 0 + 9 <= 9; decide) how
  have ht2 : TLe tf t2 := ht1.off hfn b3
  have b1 := b1 n2
  unfold zcq at b1; rw [b1, zaa]; refine zbn hw.same ?_
  rw [w2f ht2, zaa]; refine zbn su1 ?_
  have next : ∀ t', TLe tf t' -> jp 10 2 [.int .i64 ((j + 1 : Nat) : Int), .str nm, a, b, vc0, .str nm', a', b', c', vn, vc, vw, vt] t' (fun v _ => v = .bool true) := fun t' h => ih (j + 1) t' (by omega) h
  by_cases hodd : j % 2 = 1
  ·refine zbn (zda.2 (by rw [e3]; omega)) ?_
   rw [zaa, i5, zaa, ld ht2 i6, zaa, hzt, zaa, z1, zaa, z2f ht2, zaa]; intro n3 _ _; obtain ⟨t3, c1, c2, c3⟩ := b2.store (C := C19) hnb (j := 0) (v := .agg (zcq p.clauses[j / 2].then_ at1 bt1 dt1)) zzap rfl (by show 0 + 9 <= 9; decide) hot
   have ht3 : TLe tf t3 := ht2.off hfn c3
   have c1 := c1 n3
   unfold zcq at c1; simp only [cellsOf, zcq, zhu, zc2, zet, zht, yaa, yab]; rw [c1, zaa]; refine zbn ht.same ?_
   rw [z2f ht3, zaa]; refine zbn su2 ?_
   exact z0m ht3 (x := p.clauses[j / 2].then_) (cs := zcq p.clauses[j / 2].then_ at1 bt1 dt1) c2 i7 (zal.fit_ok htf) z3 (zsc htf hxb.2) (by omega) (next t3 ht3)
  ·refine zfe (fun e => absurd (zda.1 e) (by rw [e3]; omega)) ?_
   exact z0m ht2 (x := p.clauses[j / 2].when_) (cs := zcq p.clauses[j / 2].when_ aw bw dw) b2 i4 (zal.fit_ok hwf) w3 (zsc hwf hxb.1) (by omega) (next t2 ht2)
end Go.Proofs
namespace Go.Proofs
open Go Go.Am
variable [zcg]
variable {t tf : Tr zam}
theorem zrm {p : zi7} {cs : List zab} (hp : p.fit) (hg : z18 t) (hrd : RD t p.d cs) : Wc C19 F 10 [.agg cs] t (fun v _ => v = .bool true) := by
 have hs := zzba hp hrd
 obtain ⟨ca, cb, cc, rfl, ha, hbb, hc⟩ := zp8 hrd
 refine w10 _ _ _ _ ?_
 simp only [t10, wpT, q14, zzdi, zaa, zaz, Bool.not_true, yar, if_false, q13, hs, zag]; by_cases h2 : (2000 : Int) < sizeP p
 ·exact zbn (zaw.2 h2) (by trivial)
 ·refine zfe (fun e => h2 (zaw.1 e)) ?_
  rw [q22]; refine z3w hp (TLe.refl t) hg hrd (fun _ => ?_) (fun hbp tf' t' a b c vn vc vw vt k1 k2 r1 r2 r3 r4 r5 r6 r7 => ?_)
  ·have hz : zrd [(.str []), .nilslice, .nilslice, .nilslice, .nilslice, .nilslice, .nilslice, .nilslice] (.agg zzfh) = some (cellsOf zzfh) := zhs rfl
   simp only [zas, zab.asTup, zac, zbh, yaa, yab, zaa, zag]; rw [hz, zaa]; refine zbn rfl (zbn (zfq.2 (by decide)) (by trivial))
  ·have hz : zrd [(.str []), .nilslice, .nilslice, .nilslice, .nilslice, .nilslice, .nilslice, .nilslice] (.agg [.str p.name, a, b, c, vn, vc, vw, vt]) = some (cellsOf [.str p.name, a, b, c, vn, vc, vw, vt]) := zhs (by
    show (true && (zj0 .nilslice a && (zj0 .nilslice b && (zj0 .nilslice c && (zj0 .nilslice vn && (zj0 .nilslice vc && (zj0 .nilslice vw && (zj0 .nilslice vt && true)))))))) = true
    rw [zbi r1, zbi r2, zbi r3, zbi r4, zbi r5, zbi r6, zbi r7]; rfl)
   simp only [zas, zab.asTup, zac, zbh, yaa, yab, zaa, zag]; rw [hz, zaa]; simp only [cellsOf, zht, zet, yaa, yab]; have hone : zd1 zab.one [.str p.name, a, b, c, vn, vc, vw, vt] = true := by
    rw [zca]; simp only [ybh, List.all_nil, r1.one, r2.one, r3.one, r4.one, r5.one, r6.one, r7.one]; rfl
   refine zbn hone (zfe (fun e => absurd rfl (zfq.1 e)) ?_)
   have hbp' := hbp
   unfold zfk at hbp'; simp only [yac, decide_eq_true_eq] at hbp'
   obtain ⟨⟨⟨⟨hb1', hb2'⟩, hb3'⟩, hb4'⟩, hb5'⟩ := hbp'
   exact z2q hp (fun x hx => ybc.1 hb4' x hx) hb2' (hc.mono k1) r6 r7 (2 * p.clauses.length) 0 t' (by omega) k2
end Go.Proofs
namespace Go.Am
open Go Go.RowKit Go.Proofs
theorem short10 {w : World} (hL : zcx w) {cs : Array Value} {p : zi7} (hp : p.fit) (hh : Has w.heap.size cs.toList) (hrd : RD (zrf w) p.d (cs.toList.map (av w.heap.size))) :
  Calls Tryz.prog 10 #[.agg cs] w fun e w' => e = .returned (.bool true) /\ Below w.heap.size w w' :=
 z2j hL 10 [.agg (cs.toList.map (av w.heap.size))] _ (by intro _; kernel_rfl) (.single (zzbq hh)) ⟨_, zrm hp (z8v hL) hrd, fun v t h => h⟩
end Go.Am
