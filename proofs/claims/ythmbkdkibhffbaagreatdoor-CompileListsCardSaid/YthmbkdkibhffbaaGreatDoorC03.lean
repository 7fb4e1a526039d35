/- append: in the room, into new memory, and both ways where the room is not known. -/
import Derived.AtR
import Derived.Orders
import Derived.Test.YthmbkdkibhffbaaGreatDoorC02
set_option linter.all false
noncomputable section
namespace Go.Am
open Go Go.RowKit
section
variable {P : Program} {C : Ctx} {B N : Nat} {μ : Mu} {H H' : zai} {w : World}
variable {e : Env} {ρ : Operand -> Value} {dst : Option Tmp} {type : TypeId} {pos : String} {after : Array Edge} {guard : Option (Nat × Bool)} {v : zab}
theorem zb0.drop (hH : zb0 B N μ H w) (b : Nat) (hb : ∀ x t, μ.pd b ≠ some (x, t)) : zb0 B N μ ⟨H.next, H.t.del b⟩ w := by
 have hget : ∀ a, (H.t.del b).get a = if a = b then none else H.t.get a := fun a => Tr.get_del _ _ _
 have key : ∀ a x, (H.t.del b).get a = some x -> a ≠ b /\ H.t.get a = some x := by
  intro a x h; rw [hget] at h; split at h
  ·cases h
  ·exact ⟨‹_›, h⟩
 refine ⟨hH.base, hH.glob, fun a x i ha hx => hH.low a x i ha (key a x hx).2, hH.next, hH.size, fun a ha => ⟨(hH.fresh a ha).1, ?_⟩, fun a x i hx => hH.blk a x i (key a x hx).2, hH.own, fun a c x y i j hx hy => hH.inj a c x y i j (key a x hx).2 (key c y hy).2, fun a x t ha => ?_⟩
 rotate_left
 ·obtain ⟨h1, h2, h3⟩ := hH.pnd a x t ha
  exact ⟨h1, by rw [hget, if_neg fun e => hb x t (by rw [<- e]; exact ha)]; exact h2, h3⟩
 rw [hget]; split
 ·rfl
 ·exact (hH.fresh a ha).2
theorem zb0.adopt (hH : zb0 B N μ H w) {y : zal} {o' : Obj} {i : BI} (hN : N <= i.b /\ i.b < w.heap.size /\ i.ro = false) (hfree : ∀ a x j, B <= a -> H.t.get a = some x -> μ a = some j -> j.b ≠ i.b) (hy : zm8 (μ.ext H.next i) i y o') :
  zb0 B N (μ.ext H.next i) (Am.newBlk H y) (World.setBlk w i.b o') := by
 have hle : μ.le (μ.ext H.next i) := hH.ext_le
 have hget : ∀ a, (Am.newBlk H y).t.get a = if a = H.next then some y else H.t.get a := fun a => Tr.get_set _ _ _ _
 have hsz : (World.setBlk w i.b o').heap.size = w.heap.size := by simp [World.setBlk]
 refine ⟨hH.base, ?_, ?_, ?_, ?_, ?_, ?_, ?_, ?_, fun a x t ha => ?_⟩
 ·intro g hg; rw [Mu.ext_get, if_neg (by have := hH.next; have := hH.base; omega)]; exact hH.glob g hg
 ·intro a x j ha hx hj
  rw [hget, if_neg (by have := hH.next; omega)] at hx
  rw [Mu.ext_get, if_neg (by have := hH.next; omega)] at hj
  exact hH.low a x j ha hx hj
 ·have := hH.next; show B <= H.next + 1; omega
 ·rw [hsz]; exact hH.size
 ·intro a ha
  have ha' : H.next + 1 <= a := ha
  rw [hget, if_neg (by omega)]
  rw [Mu.ext_get, if_neg (by omega)]
  exact hH.fresh a (by omega)
 ·intro a x j hx h1
  rw [hget] at hx; rw [Mu.ext_get] at h1; split at hx
  ·rename_i e; subst e; cases hx
   rw [if_pos rfl] at h1; cases h1; exact ⟨o', by rw [zg0, if_pos ⟨rfl, hN.2.1⟩], hy⟩
  ·rename_i hne
   rw [if_neg hne] at h1; obtain ⟨q, h2, h3⟩ := hH.blk a x j hx h1
   refine ⟨q, ?_, h3.mono hle⟩
   rw [zg0, if_neg]
   ·exact h2
   ·rintro ⟨e, _⟩
    by_cases hb : B <= a
    ·exact hfree a x j hb hx h1 e
    ·have h5 := (hH.low a x j (by omega) hx h1).1
     omega
 ·intro a j ha hj
  rw [Mu.ext_get] at hj; rw [hsz]; split at hj
  ·cases hj; exact hN
  ·exact hH.own a j ha hj
 ·intro a b x z j k hx hz hj hk ha hb hjk
  rw [hget] at hx hz; rw [Mu.ext_get] at hj hk; by_cases ea : a = H.next
  ·by_cases eb : b = H.next
   ·rw [ea, eb]
   ·exfalso
    rw [if_pos ea] at hj; rw [if_neg eb] at hk hz
    cases hj; exact hfree b z k hb hz hk hjk.symm
  ·by_cases eb : b = H.next
   ·exfalso
    rw [if_neg ea] at hj hx; rw [if_pos eb] at hk
    cases hk; exact hfree a x j ha hx hj hjk
   ·rw [if_neg ea] at hx hj; rw [if_neg eb] at hz hk
    exact hH.inj a b x z j k hx hz hj hk ha hb hjk
 ·obtain ⟨h1, h2, h3⟩ := hH.pnd a x t ha
  have hne : a ≠ H.next := fun e => by rw [e, (hH.fresh _ (yal _)).2] at h2; cases h2
  exact ⟨by rw [Mu.ext_get, if_neg hne]; exact h1, by rw [hget, if_neg hne]; exact h2, h3⟩
theorem z77 {a : zab} {x : Value} (hx : zaq μ a x) {n : Nat} (h : zv9 a = some n) : (Builtin.lenOf x).run P w = .ok n w := by
 unfold zv9 at h; split at h
 ·rename_i s hs
  cases h; rw [zdp] at hs; subst hs; rw [zaq] at hx; rcases hx with ⟨i, c, _, rfl, _⟩ | ⟨_, _, k, _, A, rfl⟩
  ·rfl
  ·rw [k]; rfl
 ·split at h
  ·rename_i s hs
   rw [zcv] at hs; subst hs; rw [zaq] at hx; obtain ⟨str, rfl, rfl⟩ := hx
   rw [zbb, zdv] at h
   cases h; rfl
  ·rw [zae, zc0, zj6.2.1] at h
   obtain ⟨rfl, h⟩ := h
   cases h; rw [zaq] at hx; subst hx; rfl
theorem zws (hH : zb0 B N μ H w) {a : zab} {x : Value} (hx : zaq μ a x) {size n : Nat} {l : List zab} (hn : zv9 a = some n) (h : zol H size n a = some l) :
  ∃ vs : List Value, (Builtin.firstCells size n x).run P w = .ok vs.toArray w /\ zby μ l vs := by
 unfold zol at h; split at h
 ·rename_i s hs
  rw [zdp] at hs; subst hs; simp only [zad] at h; obtain ⟨c, hc, h⟩ := h
  rw [zaq] at hx; rcases hx with ⟨i, c', hi, rfl, _⟩ | ⟨_, _, k, _, A, rfl⟩
  rotate_left
  ·have hn0 : n = 0 := by
    have hn : some s.2.2.1 = some n := hn
    exact (Option.some.inj hn).symm.trans k
   subst hn0; rw [Nat.zero_mul] at h
   cases h; exact ⟨[], by show (loadCells A (0 * size)).run P w = _; rw [Nat.zero_mul]; rfl, .nil⟩
  obtain ⟨vs, _, h2, h3, _⟩ := hH.manyAt (P := P) hc hi h
  exact ⟨vs, h3, h2⟩
 ·split at h
  ·rename_i s hs
   rw [zcv] at hs; subst hs
   cases h; rw [zaq] at hx; obtain ⟨str, rfl, rfl⟩ := hx
   refine ⟨((str.extract 0 n).data.map fun b => Value.int .u8 b.toNat).toList, by rw [Array.toArray_toList]; rfl, ?_⟩
   have h1 : zqj (zbm str) n = zbm (str.extract 0 n) := by rw [zjh, zln]; simp
   rw [h1]; exact zom _
  ·rw [zae, zc0, zj6.2.1] at h
   obtain ⟨rfl, h⟩ := h
   cases h; rw [zaq] at hx; subst hx; exact ⟨[], rfl, .nil⟩
theorem z88 (newLen : Nat) : ∀ (r c : Nat), c < newLen -> Builtin.growBy newLen r c <= newLen + (newLen + 768) / 4 := by
 intro r; induction r with
 | zero => intro c h; rw [Builtin.growBy]; omega
 | succ r ih =>
  intro c h; rw [Builtin.growBy, if_neg (by omega)]
  by_cases h2 : c + (c + 768) / 4 < newLen
  ·exact ih _ h2
  ·cases r with
   | zero => rw [Builtin.growBy]; omega
   | succ r => rw [Builtin.growBy, if_pos (by omega)]; omega
theorem z3j (need cap : Nat) (h : cap < need) : Builtin.nextslicecap need cap <= 2 * need + 192 := by
 unfold Builtin.nextslicecap; split
 ·omega
 ·split
  ·omega
  ·have := z88 need 4 cap h; omega
structure zxn (et : ATy) (len cap n : Nat) (new : List zab) : Prop where
 small : len + n + cap < 1000000000
 bytes : (len + n + cap) * et.bytes < 1000000000
 b : et.bytes < 1000000000
 size : et.size ≠ 0
 new : new.length = n * et.size
 zero : et.zero.length = et.size
theorem zlz {et : ATy} {len cap n : Nat} {new : List zab} (h : ziy et len cap n new = true) : zxn et len cap n new := by
 unfold ziy at h; simp only [yac, zdl, Bool.not_eq_true', beqf, zc0, zbb] at h; obtain ⟨⟨⟨⟨⟨h1, h2⟩, h3⟩, h4⟩, h5⟩, h6⟩ := h
 exact ⟨h1, h2, h3, h4, h5, h6⟩
theorem zla (z : Array Value) (n : Nat) : (Builtin.zeroCells z n).size = n * z.size := by simp [Builtin.zeroCells]
theorem zfw {st ut el : Nat} {u : TypeDesc} {et : ATy} (hst : P.underlying st = some (.slice el)) (hut : P.underlying ut = some u) (hu : ∀ k, u ≠ .int k) (hF : zdc P el et) {base : Option Addr} {len cap n : Nat} {x : Value} {tys : Array TypeId} {args : Array Value}
  (ht0 : tys[0]? = some st) (ht1 : tys[1]? = some ut) (ha0 : args[0]? = some (.slice base len cap)) (ha1 : args[1]? = some x) (hn : (Builtin.lenOf x).run P w = .ok n w) (hlt : ¬ len + n <= cap)
  (hs : len + n < 1000000000) (hb : (len + n) * et.bytes < 1000000000) (hbb : et.bytes < 1000000000) {old new : Array Value} {z : Value} (hold : (Builtin.firstCells et.size len (.slice base len cap)).run P w.drew = .ok old w.drew) (hnew : (Builtin.firstCells et.size n x).run P w.drew = .ok new w.drew)
  (hz : ∀ w, (zeroValue el).run P w = .ok z w) :
  ∃ newCap, len + n <= newCap /\ (Builtin.append_ tys type args).run P w = .ok (.slice (some ⟨w.heap.size, 0, none⟩) (len + n) newCap) (w.drew.alloc (.cells (old ++ new ++ Builtin.zeroCells z.cells (newCap - (len + n))) el)) := by
 obtain ⟨inf, hinf, hsz, hby, _⟩ := hF.info
 obtain ⟨newCap, hcap, hc⟩ := zmf (P := P) (w := w) (len + n) cap el
 refine ⟨newCap, hcap, ?_⟩
 have h1 : ¬ (((len + n : Nat) : Int) > IntKind.i64.max /\ (False \/ et.bytes = 0)) := by
  have : IntKind.i64.max = 9223372036854775807 := by decide
  rw [this]; omega
 have h2 : ¬ Builtin.nextslicecap (len + n) cap * et.bytes > 2 ^ 48 := by
  have h3 := z3j (len + n) cap (by omega)
  have h4 : Builtin.nextslicecap (len + n) cap * et.bytes <= (2 * (len + n) + 192) * et.bytes := yaj _ h3
  have h5 : (2 * (len + n) + 192) * et.bytes = 2 * ((len + n) * et.bytes) + 192 * et.bytes := by rw [yap, yak]
  omega
 unfold Builtin.append_; simp only [ht0, ht1, ha0, ha1, Sem.run_bind, zbe hst, zbe hut, Result.andThen_ok, hF.size, Sem.run_pure]
 cases u <;> first
  | exact absurd rfl (hu _)
  | simp only [yar, if_false, Bool.not_false, if_true, hn, if_neg hlt, Result.andThen_ok, zjc hinf, hby, Sem.run_bind, Sem.run_ite, Sem.run_pure, if_neg h1, if_neg h2, hc, run_askRoom, hold, hnew, hz, zei, World.size_drew]
theorem zfb {st ut el : Nat} {u : TypeDesc} {et : ATy} (hst : P.underlying st = some (.slice el)) (hut : P.underlying ut = some u) (hu : ∀ k, u ≠ .int k) (hF : zdc P el et) {base : Option Addr} {len cap n : Nat} {x : Value} {tys : Array TypeId} {args : Array Value}
  (ht0 : tys[0]? = some st) (ht1 : tys[1]? = some ut) (ha0 : args[0]? = some (.slice base len cap)) (ha1 : args[1]? = some x) (hn : (Builtin.lenOf x).run P w = .ok n w) (hlt : len + n <= cap)
  {new : Array Value} {w' : World} (hnew : (Builtin.firstCells et.size n x).run P w = .ok new w) (hst' : (match base with | some a => storeCells (a.add (len * et.size)) new.toList | none => pure () : Sem Unit).run P w = .ok () w') :
  (Builtin.append_ tys type args).run P w = .ok (.slice base (len + n) cap) w' := by
 unfold Builtin.append_; simp only [ht0, ht1, ha0, ha1, Sem.run_bind, zbe hst, zbe hut, Result.andThen_ok, hF.size, Sem.run_pure]
 cases base with
 | none =>
  have e : w = w' := by simpa using hst'
  subst e
  cases u <;> first
   | exact absurd rfl (hu _)
   | simp only [yar, if_false, Bool.not_false, if_true, hn, if_pos hlt, Result.andThen_ok, Sem.run_bind, Sem.run_ite, Sem.run_pure, hnew]
 | some a =>
  simp only [] at hst'
  cases u <;> first
   | exact absurd rfl (hu _)
   | simp only [yar, if_false, Bool.not_false, if_true, hn, if_pos hlt, Result.andThen_ok, Sem.run_bind, Sem.run_ite, Sem.run_pure, hnew, hst']
theorem zb0.newGrown (hH : zb0 B N μ H w) {et : ATy} {len cap n newCap : Nat} {new old : List zab} {vo vn : List Value} {z : Array Value} (hg : zxn et len cap n new) (hz : zby μ et.zero z.toList) (hcap : len + n <= newCap) (ho : zby μ old vo) (hol : old.length = len * et.size) (hn : zby μ new vn) (el : TypeId) :
  zb0 B N (μ.ext H.next ⟨w.heap.size, false, et.size, newCap * et.size, false⟩) (za7 H (old ++ new) (some et.size)) (w.alloc (.cells (vo.toArray ++ vn.toArray ++ Builtin.zeroCells z (newCap - (len + n))) el)) := by
 have hzs := hz.length
 simp only [Array.length_toList] at hzs; have h1 := ho.length
 have h2 := hn.length
 have hsz : (vo.toArray ++ vn.toArray ++ Builtin.zeroCells z (newCap - (len + n))).size = newCap * et.size := by
  simp only [Array.size_append, List.size_toArray, zla, h1, h2, hol, hg.new, hzs, hg.zero]; rw [<- yap, <- yap]; congr 1; omega
 have := hH.newLoose (l := old ++ new) (cs := vo.toArray ++ vn.toArray ++ Builtin.zeroCells z (newCap - (len + n))) (es := et.size) ?_ ?_ el (0, 0) (.inl (yal _)) ?_
 ·rw [hsz] at this; exact this
 ·rw [hsz, yah, hol, hg.new, <- yap]; exact yaj _ hcap
 ·intro j a ha
  obtain ⟨v, hv, hr⟩ := (ho.append hn).get ha
  refine ⟨v, ?_, hr⟩
  have hj : j < (vo ++ vn).length := (yad.1 hv).1
  rw [Array.getElem?_append_left (by simpa using hj)]
  simpa using hv
 ·rw [yah, hol, hg.new, <- yap]; exact Nat.mul_mod_left _ _
theorem zzgr (hbase : B <= C.base) (hH : zb0 B N μ H w) {et : ATy} {n : Nat} {new : List zab} {s : Nat × Nat × Nat × Nat} (h : zfz C H et n new s = some (v, H')) {i : BI} (hi : μ s.1 = some i) {vs : List Value} (hl : zby μ new vs) :
  v = .slice s.1 s.2.1 (s.2.2.1 + n) s.2.2.2 /\ ∃ w', (storeCells (Addr.add ⟨i.b, s.2.1, none⟩ (s.2.2.1 * et.size)) vs.toArray.toList).run P w = .ok () w' /\ zb0 B N μ H' w' /\ Below N w w' := by
 unfold zfz at h; split at h
 ·cases h
  rw [zby] at hl; subst hl; exact ⟨rfl, w, rfl, hH, Below.refl _ _⟩
 ·rw [zad] at h
  obtain ⟨H1, h1, h⟩ := h
  cases h; obtain ⟨w', h2, h3, h4⟩ := zvl (P := P) hbase hH h1 hi hl
  rw [zm6]; exact ⟨rfl, w', h2, h3, h4⟩
theorem zza9 {b : Nat} {p : Tr zab × Nat × Option Nat} (hH : zb0 B N μ H w) (h : za1 H b = some p) {i : BI} (hi : μ b = some i) (hl : p.2.2 = none) : i.tight = true := by
 obtain ⟨o, h2, h3⟩ := hH.blk _ _ _ (zek h) hi
 obtain ⟨cs, elem, fr, _, _, _, _, h4⟩ := h3
 rw [hl] at h4; exact h4
theorem zv7 {b : Nat} {cs : Array Value} {elem : TypeId} {fr : Nat × Nat} (h : w.heap[b]? = some (.cells cs elem fr)) {n : Nat} (hn : n <= cs.size) : (loadCells ⟨b, 0, none⟩ n).run P w = .ok (cs.toList.take n).toArray w := by
 have := run_loadCells_list (P := P) w ⟨b, 0, none⟩ (cs.toList.take n) fun j v hv => by
  rw [zm6]; rw [List.getElem?_take] at hv; split at hv
  ·simp only [World.cell?, h]; simpa using hv
  ·cases hv
 rwa [List.length_take, Array.length_toList, Nat.min_eq_left hn] at this
theorem zqk {μ' : Mu} {i j : BI} {c : Tr zab} {m es L : Nat} {cs cs2 : Array Value} {elem el : TypeId} {fr fr2 : Nat × Nat} (hle : μ.lw μ') (h : zm8 μ i (.cells c m (some es)) (.cells cs elem fr)) {new : List zab} {vn : List Value} (hn : zby μ new vn)
  {tot : Nat} (hm : m <= tot) (htot : L + new.length = tot) (hsz : tot <= cs2.size) (hfr : fr2.2 <= fr2.1 \/ cs2.size <= fr2.1) (hold : ∀ k, k < L -> cs2[k]? = cs[k]?) (hnew : ∀ k, k < new.length -> cs2[L + k]? = vn[k]?)
  (hj : j.tight = false /\ j.es = es /\ j.room = cs2.size) (hmod : tot % es = 0) : zm8 μ' j (.cells (c.setMany new L) tot (some es)) (.cells cs2 el fr2) := by
 obtain ⟨cs0, elem0, fr0, e, h2, h3, h4, h5⟩ := h
 cases e
 refine ⟨cs2, el, fr2, rfl, hsz, .inr hfr, fun k v hv => ?_, hj.1, hj.2.1, hj.2.2, hmod⟩
 rw [Tr.get_setMany] at hv; split at hv
 ·rename_i hk
  obtain ⟨u, hu, hr⟩ := hn.get hv
  refine ⟨by omega, u, ?_, hr.mono hle _ _⟩
  have := hnew (k - L) (by omega)
  rw [show L + (k - L) = k by omega] at this
  rw [this]; exact hu
 ·rename_i hk
  obtain ⟨a, u, hu, hr⟩ := h4 k v hv
  refine ⟨by omega, u, ?_, hr.mono hle _ _⟩
  rw [hold k (by omega)]; exact hu
theorem z3t (hT : zdm P C) (hbase : B <= C.base) (hH : zb0 B N μ H w) (hE : zht μ e ρ) {c : Call} (hc : c.callee = .builtin .append) (h : znt c C e H = .val v H') : z2h P B N μ w ρ ⟨dst, .call c, type, pos, after, guard⟩ v H' := by
 have h := zd7 h
 simp only [zad, zae, zbh, Bool.not_eq_true', beqf] at h; obtain ⟨st, hst, ty, hty, ut, hut, uty, huty, htag, p, hp, h⟩ := h
 obtain ⟨X, Y, hXY, hX, hY⟩ := ztl hE hp
 unfold zge at h; simp only [zad] at h; obtain ⟨el, hel, et, het, n, hn, new, hnew, h⟩ := h
 have hF := hT.facts het
 obtain ⟨z, hz, _, hzl⟩ := hF.zero (μ := μ)
 have hU := hT.facts huty
 obtain ⟨U, hUu⟩ := hU.und
 have hU2 : ∀ k, U ≠ .int k := by
  intro k e; subst e; have h0 := hU.desc
  unfold zgh at h0; rw [hUu] at h0; rw [<- h0] at htag; exact htag rfl
 have ht0 : c.argTypes[0]? = some st := by simpa using hst
 have ht1 : c.argTypes[1]? = some ut := by simpa using hut
 have ha0 : (c.args.map ρ)[0]? = some (ρ X) := by rw [hXY]; simp
 have ha1 : (c.args.map ρ)[1]? = some (ρ Y) := by rw [hXY]; simp
 have hln := z77 (P := P) (w := w) hY hn
 obtain ⟨vn, hvn, hvl⟩ := zws (P := P) hH hY hn hnew
 obtain ⟨vn2, hvn2, hvl2⟩ := zws (P := P) hH.drew hY hn hnew
 have run : ∀ {v' w'}, (Builtin.append_ c.argTypes type (c.args.map ρ)).run P w = .ok v' w' -> (execOp ρ ⟨dst, .call c, type, pos, after, guard⟩).run P w = .ok (.value v') w' := by
  intro v' w' hr; rw [zhd hc]; simp only [builtin, Sem.run_bind, hr, Result.andThen_ok, Sem.run_pure]
 have hsl := zcu (hT.facts hty) hel
 split at h
 ·rename_i s hs
  rw [zdp] at hs; rw [hs, zaq] at hX; rcases hX with ⟨i, cap', hi, hxv, hcap, htt, hrm⟩ | ⟨k1, k2, k3, k4, A, hxv⟩
  rotate_left
  ·rw [hxv] at ha0
   rw [zar] at h; simp only [zj2] at h; obtain ⟨sb, so, sl, sc⟩ := s
   simp only at k1 k2 k3 k4
   subst k1 k2 k3 k4
   simp only at h
   split at h
   ·rename_i hle
    have hn0 : n = 0 := by omega
    subst hn0; unfold zfz at h; split at h
    ·cases h
     rw [zby] at hvl; subst hvl; refine ⟨.slice (some A) 0 0, w, μ, .inl (run ?_), μ.le_refl, hH, Below.refl _ _, by rw [zaq]; exact .inr ⟨rfl, rfl, rfl, rfl, A, rfl⟩⟩
     have := zfb (type := type) (w' := w) hsl hUu hU2 hF ht0 ht1 ha0 ha1 hln (by omega) hvn rfl
     simpa using this
    ·rw [zad] at h
     obtain ⟨H1, h1, _⟩ := h
     unfold zhx at h1; rw [zae, Bool.not_eq_true'] at h1; have h2 := h1.1
     have := hH.base
     rw [zdl.2 (show 0 < C.base by omega)] at h2
     cases h2
   ·rename_i hgt
    unfold zhl at h; simp only [zae, zad] at h; obtain ⟨hg, cc, hcc, h⟩ := h
    have hG := zlz hg
    have hb1 : (0 + n) * et.bytes < 1000000000 := Nat.lt_of_le_of_lt (yaj _ (by omega)) hG.bytes
    split at h
    ·rename_i hnone
     unfold zhk at h; rw [zad] at h; obtain ⟨old, hold, h⟩ := h
     cases h; simp only [Nat.zero_mul] at hold
     cases hold; obtain ⟨nc, hnc, hr⟩ := zfw (w := w) hsl hUu hU2 hF ht0 ht1 ha0 ha1 hln (by omega) (by have := hG.small; omega) hb1 hG.b (old := #[]) (new := vn2.toArray) (z := z) (by show (loadCells A (0 * et.size)).run P w.drew = _; rw [Nat.zero_mul]; rfl) hvn2 hz
     rw [zcl]; have hgr := hH.drew.newGrown hG hzl hnc (zby.nil (μ := μ)) (by simp) hvl2 el
     refine ⟨_, _, _, .inl (run hr), hH.ext_le, hgr, zi4.trans (zcc hH.drew.size _), ?_⟩
     rw [zaq]; exact .inl ⟨_, nc, Mu.ext_same, rfl, hnc, (fun h => by cases h), (fun _ => by simp)⟩
    ·rename_i es hsome
     unfold ziz at h; simp only [zae, yac, zc0, zj2, zcb, Bool.not_eq_true'] at h; obtain ⟨⟨⟨⟨⟨⟨h1, h2⟩, h3⟩, h4⟩, h5⟩, h6⟩, h⟩ := h
     have := hH.base
     rw [zdl.2 (show 0 < C.base by omega)] at h6
     cases h6
  rw [hxv] at ha0; rw [zar] at h; simp only [zj2] at h; split at h
  ·rename_i hle
   obtain ⟨rfl, w', h1, h2, h3⟩ := zzgr (P := P) hbase hH h hi hvl
   refine ⟨.slice (some ⟨i.b, s.2.1, none⟩) (s.2.2.1 + n) cap', w', μ, .inl (run ?_), μ.le_refl, h2, h3, ?_⟩
   ·exact zfb hsl hUu hU2 hF ht0 ht1 ha0 ha1 hln (by omega) hvn h1
   ·rw [zaq]; exact .inl ⟨i, cap', hi, rfl, hcap, htt, hrm⟩
  ·rename_i hgt
   unfold zhl at h; simp only [zae, zad] at h; obtain ⟨hg, cc, hcc, h⟩ := h
   have hG := zlz hg
   have hb1 : (s.2.2.1 + n) * et.bytes < 1000000000 := Nat.lt_of_le_of_lt (yaj _ (by omega)) hG.bytes
   split at h
   ·rename_i hnone
    unfold zhk at h; rw [zad] at h; obtain ⟨old, hold, h⟩ := h
    cases h; have hti := zza9 hH hcc hi hnone
    obtain ⟨vo, _, hvo, hlo, _⟩ := hH.drew.manyAt (P := P) hcc hi hold
    have hcc' := htt hti
    obtain ⟨nc, hnc, hr⟩ := zfw (w := w) hsl hUu hU2 hF ht0 ht1 ha0 ha1 hln (by omega) (by have := hG.small; omega) hb1 hG.b (old := vo.toArray) (new := vn2.toArray) (z := z) hlo hvn2 hz
    rw [zcl]; refine ⟨_, _, _, .inl (run hr), hH.ext_le, hH.drew.newGrown hG hzl hnc hvo (Tr.many_some _ _ _ _ hold).1 hvl2 el, zi4.trans (zcc hH.drew.size _), ?_⟩
    rw [zaq]; exact .inl ⟨_, nc, Mu.ext_same, rfl, hnc, (fun h => by cases h), (fun _ => by simp)⟩
   ·rename_i es hsome
    unfold ziz at h; simp only [zae, yac, zc0, zj2, zcb, Bool.not_eq_true'] at h; obtain ⟨⟨⟨⟨⟨⟨h1, h2⟩, h3⟩, h4⟩, h5⟩, h6⟩, h⟩ := h
    subst h2; have hown : B <= s.1 := by
     have : ¬ s.1 < C.base := fun k => by rw [zdl.2 k] at h6; cases h6
     omega
    have hNb := hH.own s.1 i hown hi
    have hxs := zek hcc
    obtain ⟨o, g2, g3⟩ := hH.blk _ _ _ hxs hi
    have g3' := g3
    obtain ⟨cs, elem, fr, rfl, g4, g5, g6, g7⟩ := g3
    have g5 := g5.resolve_left (by rw [hNb.2.2]; simp)
    rw [hsome] at g7; obtain ⟨g8, g9, g10, _⟩ := g7
    have hone : ∀ a ∈ new, a.one = true := fun a ha => ybc.1 h5 a ha
    have hrm' := hrm g8
    rw [h1, g9, g10] at hrm'
    rw [hsome] at g3'
    have hlen1 := hvl.length
    have hlen2 := hvl2.length
    have htotal : s.2.2.1 * et.size + new.length = (s.2.2.1 + n) * et.size := by rw [hG.new, <- yap]
    have hH2 := hH.drop s.1 (fun x t e => by have := (hH.pnd _ _ _ e).1; rw [hi] at this; cases this)
    by_cases hroom : s.2.2.1 + n <= cap'
    ·have hfit : (s.2.2.1 + n) * et.size <= cs.size := by
      have : (s.2.2.1 + n) * et.size <= cap' * et.size := yaj _ hroom
      omega
     obtain ⟨cs', hs', hj', hr'⟩ := zh2 (P := P) (o := s.2.2.1 * et.size) vn 0 cs w g2 g5 (by omega) (hvl.one hone)
     have hst' : (storeCells (Addr.add ⟨i.b, s.2.1, none⟩ (s.2.2.1 * et.size)) vn.toArray.toList).run P w = .ok () (World.setBlk w i.b (.cells cs' elem fr)) := by
      rw [zm6, h1, yax]; exact hr'
     have hr := zfb (type := type) hsl hUu hU2 hF ht0 ht1 ha0 ha1 hln hroom hvn (w' := World.setBlk w i.b (.cells cs' elem fr)) hst'
     simp only [Option.some.injEq, Prod.mk.injEq] at h; obtain ⟨rfl, rfl⟩ := h
     refine ⟨_, _, μ.ext H.next i, .inl (run hr), hH.ext_le, ?_, zdo hNb.1, ?_⟩
     ·refine hH2.adopt hNb ?_ (zqk hH.ext_le.f g3' hvl h4 htotal (by omega) (by rw [hs']; exact g5) ?_ ?_ ⟨g8, g9, by rw [hs']; exact g10⟩ (Nat.mul_mod_left _ _))
      ·intro a x j ha hx hj hb
       have hx' : (if a = s.1 then none else H.t.get a) = some x := by rw [<- Tr.get_del]; exact hx
       split at hx'
       ·cases hx'
       ·rename_i hne
        exact hne (hH.inj a s.1 x _ j i hx' hxs hj hi ha hown hb)
      ·intro k hk
       rw [hj', if_neg (by omega)]
      ·intro k hk
       rw [hj', if_pos (by omega)]
       congr 1; omega
     ·rw [zaq]
      refine .inl ⟨i, cap', Mu.ext_same, by rw [h1], hroom, (fun h => by rw [g8] at h; cases h), (fun _ => ?_)⟩
      rw [g9, g10]; omega
    ·have hlo : (Builtin.firstCells et.size s.2.2.1 (.slice (some ⟨i.b, s.2.1, none⟩) s.2.2.1 cap')).run P w.drew = .ok (cs.toList.take (s.2.2.1 * et.size)).toArray w.drew := by
      rw [h1]; exact zv7 (w := w.drew) g2 (by omega)
     obtain ⟨nc, hnc, hr⟩ := zfw (w := w) (type := type) hsl hUu hU2 hF ht0 ht1 ha0 ha1 hln hroom (by have := hG.small; omega) hb1 hG.b (new := vn2.toArray) (z := z) hlo hvn2 hz
     have hzs := hzl.length
     simp only [Array.length_toList] at hzs; have hol : (cs.toList.take (s.2.2.1 * et.size)).length = s.2.2.1 * et.size := by rw [List.length_take, Array.length_toList]; omega
     have hsz2 : ((cs.toList.take (s.2.2.1 * et.size)).toArray ++ vn2.toArray ++ Builtin.zeroCells z.cells (nc - (s.2.2.1 + n))).size = nc * et.size := by
      simp only [Array.size_append, List.size_toArray, zla, hol, hlen2, hG.new, hzs, hG.zero]; rw [<- yap, <- yap]; congr 1; omega
     simp only [Option.some.injEq, Prod.mk.injEq] at h; obtain ⟨rfl, rfl⟩ := h
     refine ⟨_, _, μ.ext H.next ⟨w.heap.size, false, et.size, nc * et.size, false⟩, .inl (run hr), hH.ext_le, ?_, zi4.trans (zcc hH.drew.size _), ?_⟩
     ·refine hH2.drew.newBlk (H := ⟨H.next, H.t.del s.1⟩) rfl rfl (zqk hH.ext_le.f g3' hvl2 h4 htotal ?_ (.inl (yal _)) ?_ ?_ ⟨rfl, rfl, hsz2.symm⟩ (Nat.mul_mod_left _ _))
      ·rw [hsz2]; exact yaj _ hnc
      ·intro k hk
       rw [Array.getElem?_append_left (by simp [hol]; omega), Array.getElem?_append_left (by simp [hol]; omega)]
       simp [hk]
      ·intro k hk
       rw [Array.getElem?_append_left (by simp only [Array.size_append, List.size_toArray, hol, hlen2]; omega), Array.getElem?_append_right (by simp only [List.size_toArray, hol]; omega)]
       simp only [List.size_toArray, hol, Nat.add_sub_cancel_left]; simp
     ·rw [zaq]
      exact .inl ⟨_, nc, Mu.ext_same, rfl, hnc, (fun h => by cases h), (fun _ => by simp)⟩
 ·simp only [zae, zc0, zj6.2.1] at h
  obtain ⟨hs, h⟩ := h
  rw [hs, zaq] at hX; rw [hX] at ha0; unfold zfg at h; rw [zar] at h; simp only [zc0] at h; split at h
  ·rename_i hn0
   subst hn0
   cases h; refine ⟨.slice none 0 0, w, μ, .inl (run ?_), μ.le_refl, hH, Below.refl _ _, by rw [zaq]⟩
   have := zfb (type := type) (w' := w) hsl hUu hU2 hF ht0 ht1 ha0 ha1 hln (by omega) hvn rfl
   simpa using this
  ·rename_i hn0
   simp only [zae] at h; obtain ⟨hg, h⟩ := h
   cases h; have hG := zlz hg
   have hb1 : (0 + n) * et.bytes < 1000000000 := Nat.lt_of_le_of_lt (yaj _ (by omega)) hG.bytes
   obtain ⟨nc, hnc, hr⟩ := zfw (w := w) hsl hUu hU2 hF ht0 ht1 ha0 ha1 hln (by omega) (by have := hG.small; omega) hb1 hG.b (old := #[]) (new := vn2.toArray) (z := z) rfl hvn2 hz
   rw [yax] at hr hnc; have hgr := hH.drew.newGrown hG hzl (by omega) (zby.nil (μ := μ)) (by simp) hvl2 el (newCap := nc)
   simp only [yax] at hgr; refine ⟨_, _, _, .inl (run hr), hH.ext_le, hgr, zi4.trans (zcc hH.drew.size _), ?_⟩
   rw [zaq]; exact .inl ⟨_, nc, Mu.ext_same, rfl, hnc, (fun h => by cases h), (fun _ => by simp)⟩
end
end Go.Am
namespace Go.Am
open Go Go.RowKit
section
variable {P : Program} {C : Ctx} {B N : Nat} {μ : Mu} {H H' : zai} {w : World} {I : World -> Prop}
variable {e : Env} {ρ : Operand -> Value} {dst : Option Tmp} {type : TypeId} {pos : String} {after : Array Edge} {guard : Option (Nat × Bool)} {v : zab}
def zuy (P : Program) (C : Ctx) : Prop := ∀ f fn, C.fns.get f = some fn -> P.funcs[f]? = some fn /\ (fn.name == "runtime.NumGoroutine") = false
def zri (P : Program) (C : Ctx) (B N : Nat) (I : World -> Prop) : Prop := ∀ f g, C.prims.get f = some g -> ∀ args H v, g args H = some v -> ∀ μ w args', zb0 B N μ H w -> I w -> zby μ args args'.toList →
 (∃ v', (callFunc f args').run P w = .ok (.value v') w /\ zaq μ v v') ∨
 ((callFunc f args').run P w = .ok (.enter f args') w /\ Calls P f args' w fun e w' => ∃ v', e = .returned v' /\ zaq μ v v' /\ Below w.heap.size w w')
theorem zsh (hE : zht μ e ρ) {c : Call} {f : Operand} (hc : c.callee = .value f) {p : AFn × List zab × List zab} (h : zfc f c.args e = some p) :
  ∃ fn cap as, (resolve ρ c type).run P w = .ok { target := .fn fn cap, args := as } w /\ z4i μ p.1 fn /\ zby μ p.2.1 as.toList /\ zby μ p.2.2 cap.toList := by
 unfold zfc at h; simp only [zad, zq9, zcl] at h; obtain ⟨a, ha, q, rfl, as, has, h⟩ := h
 cases h; have hv := hE _ _ ha
 rw [zaq] at hv; obtain ⟨fn, first, cap, hfv, hfn, h1, h2⟩ := hv
 refine ⟨fn, cap, first ++ c.args.map ρ, ?_, hfn, ?_, h2⟩
 ·simp only [resolve, hc, hfv, Deferred.ofValue, Sem.run_pure]
 ·have h3 := hE.many has
  have := h1.append h3
  simpa using this
theorem zh3 (hF : zuy P C) {f : Nat} {fn : Func} (hf : C.fns.get f = some fn) (hb : fn.body.isSome = true) {args : Array Value} : (callFunc f args).run P w = .ok (.enter f args) w := by
 obtain ⟨h1, h2⟩ := hF f fn hf
 unfold callFunc; simp only [Sem.run_bind, run_program, Result.andThen_ok, h1, h2]; have : fn.body.isNone = false := by cases h : fn.body <;> simp [h] at hb ⊢
 simp [this]
def zu0 (P : Program) (C : Ctx) (B N : Nat) (μ : Mu) (H : zai) (w : World) (ρ : Operand -> Value) (o : Oper) : ztd -> Prop
 | .val v H' => z2h P B N μ w ρ o v H' \/ (H' = H /\ ∃ f args', (execOp ρ o).run P w = .ok (.enter f args') w /\ Calls P f args' w fun e w' => ∃ v', e = .returned v' /\ zaq μ v v' /\ Below w.heap.size w w')
 | .enter f args => ∀ fn, C.fns.get f = some fn -> fn.body.isSome = true -> ∃ args', (execOp ρ o).run P w = .ok (.enter f args') w /\ zby μ args args'.toList
 | .round l args => ∃ i args', μ l = some i /\ zby μ args args'.toList /\ (execOp ρ o).run P w = (Instr.yield i.b args').run P w
 | .defer d => (∃ c, o.op = .defer c) /\ ∃ d', (execOp ρ o).run P w = .ok (.defer d') w /\ zjp μ d d'
 | .panic v => ∃ v', (execOp ρ o).run P w = .halt (.panic v') w /\ zaq μ v v'
 | .recover => (execOp ρ o).run P w = .ok .recover w
 | .fail => True
theorem z84 (hF : zuy P C) (hP : zri P C B N I) (hH : zb0 B N μ H w) (hI : I w) (hE : zht μ e ρ) {c : Call} {f : Operand} (hc : c.callee = .value f) :
  zu0 P C B N μ H w ρ ⟨dst, .call c, type, pos, after, guard⟩ (zqu f c.args C e H) := by
 unfold zqu
 cases hr : zfc f c.args e with
 | none => exact trivial
 | some p =>
  obtain ⟨fn, cap, as, h1, h2, h3, h3'⟩ := zsh (P := P) (w := w) (type := type) hE hc hr
  have run : (execOp ρ ⟨dst, .call c, type, pos, after, guard⟩).run P w = (invoke (.fn fn cap) as).run P w := by
   simp only [execOp, Sem.run_bind, h1, Result.andThen_ok]
  show zu0 P C B N μ H w ρ _ (callA C H p.2.1 p.2.2 p.1)
  obtain ⟨fa, args, caps⟩ := p
  cases fa with
  | func g =>
   cases h2; have run2 : (execOp ρ ⟨dst, .call c, type, pos, after, guard⟩).run P w = (callFunc g (as ++ cap)).run P w := by rw [run]; rfl
   have hl : zby μ (ziu args caps) (as ++ cap).toList := by rw [zcl]; simpa using h3.append h3'
   show zu0 P C B N μ H w ρ _ (zq4 C H (ziu args caps) g (C.prims.get g))
   cases hp : C.prims.get g with
   | none =>
    show ∀ fn, C.fns.get g = some fn -> _
    intro fn hfn hb; exact ⟨as ++ cap, by rw [run2]; exact zh3 hF hfn hb, hl⟩
   | some pr =>
    cases hv : pr (ziu args caps) H with
    | none => simp only [zq4, hv]; exact trivial
    | some v =>
     simp only [zq4, hv]; rcases hP g pr hp _ H v hv μ w (as ++ cap) hH hI hl with ⟨v', h4, h5⟩ | ⟨h4, h5⟩
     ·exact Or.inl ⟨v', w, μ, .inl (by rw [run2]; exact h4), μ.le_refl, hH, Below.refl _ _, h5⟩
     ·exact Or.inr ⟨rfl, g, as ++ cap, by rw [run2]; exact h4, h5⟩
  | yld l =>
   obtain ⟨i, hi, rfl⟩ := h2
   show zu0 P C B N μ H w ρ _ (zw7 l args caps)
   cases caps with
   | cons a b => exact trivial
   | nil => exact ⟨i, as, hi, h3, by rw [run]; rfl⟩
theorem zzfy (hT : zdm P C) (hbase : B <= C.base) (hF : zuy P C) (hP : zri P C B N I) (hH : zb0 B N μ H w) (hI : I w) (hE : zht μ e ρ) (o : Oper) : zu0 P C B N μ H w ρ o ((aop o.op).f C e H) := by
 have light : (∃ l : LOp, (aop o.op).f = lv l /\ ∀ v, l C e H = some v -> LOk P μ w ρ o v) -> zu0 P C B N μ H w ρ o ((aop o.op).f C e H) := by
  rintro ⟨l, h1, h2⟩
  rw [h1]; unfold lv
  cases h : l C e H with
  | none => exact trivial
  | some v => exact Or.inl ((h2 v h).hv hH)
 have val : ∀ x : Option (zab × zai), (aop o.op).f C e H = zyk x -> (∀ v H', zyk x = .val v H' -> z2h P B N μ w ρ o v H') -> zu0 P C B N μ H w ρ o ((aop o.op).f C e H) := by
  intro x h1 h2; rw [h1]
  cases x with
  | none => exact trivial
  | some p => exact Or.inl (h2 p.1 p.2 rfl)
 obtain ⟨dst, op, type, pos, after, guard⟩ := o
 cases op
 case move => exact light ⟨_, rfl, fun v h => z1k (C := C) (H := H) hE h⟩
 case assign => exact light ⟨_, rfl, fun v h => zsu (C := C) (H := H) hE h⟩
 case pick => exact light ⟨_, rfl, fun v h => z1j (C := C) (H := H) hE h⟩
 case load => exact light ⟨_, rfl, fun v h => z1l hT hH hE h⟩
 case nilCheck => exact light ⟨_, rfl, fun v h => z8d (C := C) (H := H) hE h⟩
 case binOp => exact light ⟨_, rfl, fun v h => z8n (H := H) hT hE h⟩
 case unOp => exact light ⟨_, rfl, fun v h => zze2 (C := C) (H := H) hE h⟩
 case makeInterface => exact light ⟨_, rfl, fun v h => zwg (H := H) hT hE h⟩
 case makeFunc => exact light ⟨_, rfl, fun v h => z1n (C := C) (H := H) hE h⟩
 case slice => exact light ⟨_, rfl, fun v h => zwe hT hH hE h⟩
 case fieldAddr => exact light ⟨_, rfl, fun v h => zmq (H := H) hT hE h⟩
 case field => exact light ⟨_, rfl, fun v h => zwh (H := H) hT hE h⟩
 case indexAddr => exact light ⟨_, rfl, fun v h => zmp (H := H) hT hE h⟩
 case index => exact light ⟨_, rfl, fun v h => zwf (H := H) hT hE h⟩
 case extract => exact light ⟨_, rfl, fun v h => zqp (C := C) (H := H) hE h⟩
 case build => exact light ⟨_, rfl, fun v h => zwi (H := H) hT hE h⟩
 case typeAssert => exact light ⟨_, rfl, fun v h => zsv (H := H) hT hE h⟩
 case lookup => exact light ⟨_, rfl, fun v h => zst hT hH hE h⟩
 case convert s d x =>
  show zu0 P C B N μ H w ρ _ (zfy s d x C e H)
  cases h : zfy s d x C e H with
  | val v H' => exact Or.inl (zzc hT hH hE h)
  | fail => exact trivial
  | _ =>
   exfalso
   unfold zfy at h; split at h
   ·cases h
   ·revert h; unfold zyk; split <;> intro h <;> cases h
 case alloc => exact val _ rfl fun v H' h => z87 (e := e) hT hH h
 case box => exact val _ rfl fun v H' h => zzhw (C := C) hH hE h
 case buildSlice => exact val _ rfl fun v H' h => zrx hT hH hE h
 case store => exact val _ rfl fun v H' h => z85 hT hbase hH hE h
 case makeMap t r =>
  show zu0 P C B N μ H w ρ _ (zmt r C e H)
  cases r with
  | none => exact Or.inl (zzb (C := C) (e := e) hH rfl)
  | some x => exact trivial
 case insert => exact val _ rfl fun v H' h => (zs0 hT hbase hH hE h).2
 case mapUpdate => exact val _ rfl fun v H' h => (zs0 hT hbase hH hE h).1
 case makeSlice => exact val _ rfl fun v H' h => zue hT hH hE h
 case panic x =>
  show zu0 P C B N μ H w ρ _ (z86 x C e H)
  unfold z86
  cases hx : ev x e with
  | none => exact trivial
  | some a =>
   cases hf : a.asIface with
   | none => simp only [zac, hf, zzg3, zzeo]; exact trivial
   | some p =>
    simp only [zac, hf, zzeo]; have h1 := hE _ _ hx
    rw [zoo.1 hf, zaq] at h1; obtain ⟨x', h2, h3⟩ := h1
    refine ⟨.iface p.1 x', ?_, by rw [zaq]; exact ⟨_, rfl, h3⟩⟩
    simp [execOp, h2, Instr.panic]
 case defer c =>
  show zu0 P C B N μ H w ρ _ ((zo9 c c.callee).f C e H)
  cases hc : c.callee with
  | value f =>
   show zu0 P C B N μ H w ρ _ (zzeo (ob (zfc f c.args e) fun p => some (.defer ⟨some p.1, 0, ziu p.2.1 p.2.2⟩)))
   cases hr : zfc f c.args e with
   | none => exact trivial
   | some p =>
    obtain ⟨fn, cap, as, h1, h2, h3, h3'⟩ := zsh (P := P) (w := w) (type := type) hE hc hr
    refine ⟨⟨c, rfl⟩, { target := .fn fn cap, args := as }, by simp only [execOp, Sem.run_bind, h1, Result.andThen_ok, Sem.run_pure], ⟨?_⟩⟩
    refine ⟨fn, cap, as, rfl, h2, ?_⟩
    show zby μ (ziu p.2.1 p.2.2) _
    rw [zcl]; simpa using h3.append h3'
  | _ => exact trivial
 case call c =>
  show zu0 P C B N μ H w ρ _ ((zns c c.callee).f C e H)
  cases hc : c.callee with
  | value f => exact z84 hF hP hH hI hE hc
  | builtin b =>
   cases b
   case append =>
    show zu0 P C B N μ H w ρ _ (znt c C e H)
    cases h : znt c C e H with
    | val v H' => exact Or.inl (z3t hT hbase hH hE hc h)
    | fail => exact trivial
    | _ => exfalso; revert h; unfold znt zyk; split <;> intro h <;> cases h
   case len =>
    show zu0 P C B N μ H w ρ _ (lv (z1m c) C e H)
    unfold lv
    cases h : z1m c C e H with
    | none => exact trivial
    | some v => exact Or.inl ((z8k hT hH hE hc h).hv hH)
   case max =>
    show zu0 P C B N μ H w ρ _ (lv (z8h c) C e H)
    unfold lv
    cases h : z8h c C e H with
    | none => exact trivial
    | some v => exact Or.inl ((z8g (C := C) (H := H) hE hc h).hv hH)
   case min =>
    show zu0 P C B N μ H w ρ _ (lv (z8f c) C e H)
    unfold lv
    cases h : z8f c C e H with
    | none => exact trivial
    | some v => exact Or.inl ((z8e (C := C) (H := H) hE hc h).hv hH)
   case recover =>
    show (execOp ρ ⟨dst, .call c, type, pos, after, guard⟩).run P w = _
    rw [zhd hc]; rfl
   all_goals exact trivial
  | invoke r m => exact trivial
 all_goals exact trivial
end
end Go.Am
namespace Go.Am
open Go Go.RowKit
inductive zbo (μ : Mu) : zce -> Item -> Prop
 | code (c : Code) : zbo μ (.code c) (.code c)
 | inBlock (id : Nat) : zbo μ (.inBlock id) (.inBlock id)
 | inLoop (c : Code) : zbo μ (.inLoop c) (.inLoop c)
 | inScope (c : Code) : zbo μ (.inScope c) (.inScope c)
 | ops (all : Array Oper) (i : Nat) (h : i <= all.size) : zbo μ (.ops all (all.toList.drop i)) (.inRegion all ((List.range all.size).drop i))
 | inRange (l : Nat) (i : BI) (h : μ l = some i) : zbo μ (.inRange l) (.inRangeFunc i.b)
 | endRange (l : Nat) (i : BI) (h : μ l = some i) : zbo μ (.endRange l) (.endRangeFunc i.b)
 | beginRound : zbo μ .beginRound .beginRound
theorem zbo.mono {μ ν : Mu} (h : μ.lw ν) {a : zce} {b : Item} (k : zbo μ a b) : zbo ν a b := by
 cases k with
 | code c => exact .code c
 | inBlock id => exact .inBlock id
 | inLoop c => exact .inLoop c
 | inScope c => exact .inScope c
 | ops all i hi => exact .ops all i hi
 | inRange l i hl => exact .inRange l i (h _ _ hl)
 | endRange l i hl => exact .endRange l i (h _ _ hl)
 | beginRound => exact .beginRound
structure zh9 (μ : Mu) (p : zov) (e : PanicEntry) : Prop where
 v : zaq μ p.v e.v
 recovered : e.recovered = p.recovered
 goexit : e.goexit = false
theorem zh9.mono {μ ν : Mu} (h : μ.lw ν) {p : zov} {e : PanicEntry} (k : zh9 μ p e) : zh9 ν p e := ⟨k.v.mono h _ _, k.recovered, k.goexit⟩
def zrk (μ : Mu) : zry -> FrameMode -> Prop
 | .run, .run => True
 | .returning, .returning => True
 | .panicking c, .panicking d => zec (zh9 μ) c d
 | _, _ => False
theorem zrk.mono {μ ν : Mu} (h : μ.lw ν) {a : zry} {b : FrameMode} (k : zrk μ a b) : zrk ν a b := by
 cases a <;> cases b <;> first | exact zec.mono (fun _ _ r => zh9.mono h r) k | exact k
def zh8 (μ : Mu) : Option Nat -> Option Nat -> Prop
 | none, none => True
 | some l, some m => ∃ i, μ l = some i /\ m = i.b
 | _, _ => False
theorem zh8.mono {μ ν : Mu} (h : μ.lw ν) {a b : Option Nat} (k : zh8 μ a b) : zh8 ν a b := by
 cases a <;> cases b <;> first | (obtain ⟨i, h1, h2⟩ := k; exact ⟨i, h _ _ h1, h2⟩) | exact k
structure zbx (μ : Mu) (R : zgf) (fr : Frame) : Prop where
 fn : fr.fn = R.fn
 size : fr.tmps.size = R.n
 defers : zec (zjp μ) R.defers fr.defers
 mode : zrk μ R.mode fr.mode
 kind : fr.kind = if R.deferred then .deferred else .normal
 round : zh8 μ R.roundOf fr.roundOf
theorem zbx.mono {μ ν : Mu} (h : μ.lw ν) {R : zgf} {fr : Frame} (k : zbx μ R fr) : zbx ν R fr :=
 ⟨k.fn, k.size, k.defers.mono fun _ _ r => r.mono h, k.mode.mono h, k.kind, k.round.mono h⟩
def zko (o : Oper) (j : Nat) : Prop := ∃ e ∈ o.after.toList, Region.binds .any e = true /\ e.on = j
def zzd5 (ops : Array Oper) : (Nat -> Bool) -> List Nat -> Prop
 | S, [] => ∀ i, i < ops.size -> S i = true
 | S, i :: rest => ∃ o, ops[i]? = some o /\ S i = false /\ (∀ j, zko o j -> S j = true) /\ zzd5 ops (fun k => S k || k == i) rest
theorem z6w {ops : Array Oper} {listed : Array Bool} {i : Nat} (h : i ∈ Region.ready .any ops listed) : ∃ o, ops[i]? = some o /\ listed.getD i true = false /\ ∀ j, zko o j -> listed.getD j false = true := by
 unfold Region.ready at h; rw [List.mem_filter] at h; obtain ⟨h1, h2⟩ := h
 simp only [yac, Bool.not_eq_true'] at h2; obtain ⟨h2, h3⟩ := h2
 cases ho : ops[i]? with
 | none => rw [ho] at h3; simp at h3
 | some o =>
  rw [ho] at h3; refine ⟨o, rfl, h2, ?_⟩
  rintro j ⟨e, he, hb, rfl⟩
  simp only [Option.map_some, Option.getD_some, Array.all_eq_true'] at h3; have := h3 e (by simpa using he)
  rw [hb] at this; simpa using this
theorem zzb0 {ops : Array Oper} {listed : Array Bool} {i : Nat} {o : Oper} (ho : ops[i]? = some o) (h1 : listed.getD i true = false) (h2 : ∀ j, zko o j -> listed.getD j false = true) : i ∈ Region.ready .any ops listed := by
 unfold Region.ready; rw [List.mem_filter]; refine ⟨by rw [List.mem_range]; exact (yaf.1 ho).1, ?_⟩
 rw [h1, ho]; simp only [Bool.not_false, Bool.true_and, Option.map_some, Option.getD_some, Array.all_eq_true']; intro e he
 cases hb : Region.binds .any e with
 | false => rfl
 | true => simpa using h2 e.on ⟨e, by simpa using he, hb, rfl⟩
def Back (ops : Array Oper) : Prop := ∀ i o, ops[i]? = some o -> ∀ j, zko o j -> j < i
theorem z9x {p q : Nat -> Bool} (hqp : ∀ k, q k = true -> p k = true) {i : Nat} (hp : p i = true) (hq : q i = false) : ∀ l : List Nat, i ∈ l -> l.countP q + 1 <= l.countP p := by
 have le : ∀ l : List Nat, l.countP q <= l.countP p := fun l => List.countP_mono_left fun k _ h => hqp k h
 intro l; induction l with
 | nil => intro h; cases h
 | cons k l ih =>
  intro h; rw [List.countP_cons, List.countP_cons]; rcases yat.1 h with rfl | h
  ·rw [hp, hq]; have := le l; simp; omega
  ·have := ih h
   cases hk : q k with
   | true => rw [hqp k hk]; simp; omega
   | false => simp; omega
theorem zzbu {ops : Array Oper} (hb : Back ops) : ∀ (fuel t : Nat) (listed : Array Bool), listed.size = ops.size →
  (List.range ops.size).countP (fun i => !listed.getD i true) <= fuel →
  zzd5 ops (fun i => listed.getD i false) (Region.linearise.go .any ops fuel t listed []) := by
 intro fuel; induction fuel with
 | zero =>
  intro t listed hs hc; simp only [Region.linearise.go, List.reverse_nil]; intro i hi; have h0 := Nat.le_zero.1 hc
  rw [List.countP_eq_zero] at h0; have := h0 i (List.mem_range.2 hi)
  simp only [Bool.not_eq_true, Bool.not_eq_false'] at this; have hi' : i < listed.size := by omega
  simpa [Array.getD, hi'] using this
 | succ fuel ih =>
  intro t listed hs hc; simp only [Region.linearise.go]; change zzd5 ops _ (match (Region.ready .any ops listed)[t % (Region.ready .any ops listed).length]? with
   | some i => Region.linearise.go .any ops fuel (t / (Region.ready .any ops listed).length) (listed.setIfInBounds i true) [i]
   | none => [].reverse)
  cases hi : (Region.ready .any ops listed)[t % (Region.ready .any ops listed).length]? with
  | none =>
   have hnil : Region.ready .any ops listed = [] := by
    cases hr : Region.ready .any ops listed with
    | nil => rfl
    | cons x xs =>
     rw [hr] at hi; have hlt : t % (x :: xs).length < (x :: xs).length := Nat.mod_lt _ (by simp)
     rw [List.getElem?_eq_none_iff] at hi; omega
   show ∀ i, i < ops.size -> listed.getD i false = true
   intro i; induction i using Nat.strongRecOn with
   | _ i ihi =>
    intro hlt; refine Classical.byContradiction fun hne => ?_
    have ho : ops[i]? = some ops[i] := by simp [hlt]
    have hil : i < listed.size := by omega
    have h1 : listed.getD i true = false := by
     have : listed.getD i false = false := by simpa using hne
     simpa [Array.getD, hil] using this
    have := zzb0 ho h1 fun j hj => ihi j (hb i _ ho j hj) (Nat.lt_trans (hb i _ ho j hj) hlt)
    rw [hnil] at this; cases this
  | some i =>
   simp only []; rw [linearise_go_acc, List.reverse_singleton, List.singleton_append]; obtain ⟨o, ho, h1, h2⟩ := z6w (List.mem_of_getElem? hi)
   have hlt : i < ops.size := (yaf.1 ho).1
   have hil : i < listed.size := by omega
   refine ⟨o, ho, by simpa [Array.getD, hil] using h1, h2, ?_⟩
   have key : (fun k => listed.getD k false || k == i) = fun k => (listed.setIfInBounds i true).getD k false := by
    funext k
    simp only [Array.getD_eq_getD_getElem?, Array.getElem?_setIfInBounds]; by_cases e : i = k
    ·subst e; simp [hil]
    ·rw [if_neg e]
     have : (k == i) = false := by simp; exact fun h => e h.symm
     simp [this]
   rw [key]; refine ih _ _ (by simpa using hs) ?_
   have hcnt : (List.range ops.size).countP (fun k => !(listed.setIfInBounds i true).getD k true) + 1 <= (List.range ops.size).countP (fun k => !listed.getD k true) := by
    refine z9x (fun k hk => ?_) (i := i) ?_ ?_ _ (List.mem_range.2 hlt)
    ·simp only [Bool.not_eq_true', Array.getD_eq_getD_getElem?, Array.getElem?_setIfInBounds] at hk ⊢
     split at hk
     ·rename_i e; subst e; simp at hk
     ·exact hk
    ·simpa using h1
    ·simp [Array.getD_eq_getD_getElem?, hil]
   omega
end Go.Am
namespace Go.Am
open Go Go.RowKit
theorem z5l (m i : Nat) : tb m i = m.testBit i := by
 have h : Nat.mod (Nat.shiftRight m i) 2 = (m >>> i) % 2 := rfl
 unfold tb; show Nat.beq ((m >>> i) % 2) 1 = _
 rw [Nat.testBit, Nat.and_comm, Nat.and_one_is_mod]; rcases Nat.mod_two_eq_zero_or_one (m >>> i) with h | h <;> rw [h] <;> rfl
theorem z0h (i j : Nat) : tb (zzio i) j = (i == j) := by
 rw [z5l]; show (1 <<< i).testBit j = _
 rw [Nat.one_shiftLeft, Nat.testBit_two_pow]
 cases h : (i == j) <;> simp_all
theorem zzeb (a b j : Nat) : tb (Nat.lor a b) j = (tb a j || tb b j) := by
 rw [z5l, z5l, z5l]; exact Nat.testBit_or a b j
theorem ztq (j : Nat) : tb 0 j = false := by rw [z5l]; simp
theorem zkl (e : Edge) : zq6 e = Region.binds .any e := by
 unfold zq6 Region.binds
 cases e.ground <;> rfl
def zlq (ops : Array Oper) (S : Nat -> Bool) : Prop := ∀ i o, ops[i]? = some o -> S i = true -> ∀ j, zko o j -> S j = true
def zziy (ops : Array Oper) (k m : Nat) : Prop := ∀ S, zlq ops S -> (∀ o, ops[k]? = some o -> ∀ j, zko o j -> S j = true) -> ∀ j, tb m j = true -> S j = true
theorem z7t {t : Tr Nat} {j : Nat} : ∀ {l : List Edge}, tb (zso t l) j = true -> ∃ e ∈ l, Region.binds .any e = true /\ (e.on = j \/ tb (zs2 t e.on) j = true) := by
 intro l; induction l with
 | nil => intro h; simp [zso, ztq] at h
 | cons e l ih =>
  intro h; unfold zso at h
  cases hb : zq6 e with
  | false =>
   rw [hb] at h; obtain ⟨e', h1, h2⟩ := ih h
   exact ⟨e', .tail _ h1, h2⟩
  | true =>
   rw [hb] at h; simp only [cond_true, zzeb, z0h, Bool.or_eq_true, beq_iff_eq] at h; rcases h with (h | h) | h
   ·exact ⟨e, .head _, by rw [<- zkl]; exact hb, .inl h⟩
   ·exact ⟨e, .head _, by rw [<- zkl]; exact hb, .inr h⟩
   ·obtain ⟨e', h1, h2⟩ := ih h
    exact ⟨e', .tail _ h1, h2⟩
theorem zzc6 {t : Tr Nat} {i k m : Nat} : zs2 (t.set i m) k = if k = i then m else zs2 t k := by
 unfold zs2; rw [Tr.get_set]; by_cases h : k = i <;> simp [h]
theorem z9a {k : Nat} : zs2 .leaf k = 0 := rfl
theorem zfj {α : Type} {l r : List α} {a : α} {i : Nat} (h : a :: r = l.drop i) : l[i]? = some a /\ r = l.drop (i + 1) := by
 have h1 : (l.drop i)[0]? = some a := by rw [<- h]; rfl
 rw [List.getElem?_drop] at h1; refine ⟨by simpa using h1, ?_⟩
 have : r = (l.drop i).drop 1 := by rw [<- h]; rfl
 rw [this, List.drop_drop]
theorem zzd1 {ops : Array Oper} : ∀ (r : List Oper) (i : Nat) (t : Tr Nat), r = ops.toList.drop i -> (∀ k, zziy ops k (zs2 t k)) -> ∀ k, zziy ops k (zs2 (zzis r i t) k) := by
 intro r; induction r with
 | nil => intro i t _ h k; exact h k
 | cons o r ih =>
  intro i t hr h; obtain ⟨h1, h2⟩ := zfj hr
  refine ih (i + 1) _ h2 fun k => ?_
  rw [zzc6]; split
  ·rename_i e; subst e
   intro S hS hp j hj; obtain ⟨e, he, hb, hj⟩ := z7t hj
   have ho : ops[k]? = some o := by simpa using h1
   have hon := hp o ho e.on ⟨e, he, hb, rfl⟩
   rcases hj with rfl | hj
   ·exact hon
   ·exact h e.on S hS (fun o' ho' => hS _ o' ho' hon) j hj
  ·exact h k
theorem z7l {ops : Array Oper} : ∀ (r : List Oper) (i : Nat), r = ops.toList.drop i -> z1a r i = true -> ∀ k o, i <= k -> ops[k]? = some o -> ∀ j, zko o j -> j < k := by
 intro r; induction r with
 | nil =>
  intro i hr _ k o hk ho; have : ops.toList.length <= i := by rw [<- List.drop_eq_nil_iff]; exact hr.symm
  have := (yaf.1 ho).1
  simp at *; omega
 | cons o r ih =>
  intro i hr h k o' hk ho; obtain ⟨h1, h2⟩ := zfj hr
  unfold z1a at h; rw [zar] at h; split at h
  ·rename_i h3
   rcases Nat.eq_or_lt_of_le hk with rfl | hk
   ·have : o' = o := by
     have : ops[i]? = some o := by simpa using h1
     rw [this] at ho; exact (Option.some.inj ho).symm
    subst this; rintro j ⟨e, he, hb, rfl⟩
    rw [zcb, ybc] at h3; have := h3 e he
    rw [zkl, hb] at this; exact zdl.1 this
   ·exact ih (i + 1) h2 h k o' hk ho
  ·cases h
def WrOk (ops : Array Oper) (i : Nat) (wr : Tr Nat) : Prop := ∀ d k, wr.get d = some k ↔ k < i /\ ∃ o, ops[k]? = some o /\ o.dst = some d
theorem zzf6 {ops : Array Oper} : ∀ (r : List Oper) (i : Nat) (t wr : Tr Nat), r = ops.toList.drop i -> i <= ops.size -> WrOk ops i t -> wrOf r i t = some wr -> WrOk ops ops.size wr := by
 intro r; induction r with
 | nil =>
  intro i t wr hr hi h he
  cases he; have : ops.toList.length <= i := by rw [<- List.drop_eq_nil_iff]; exact hr.symm
  have : i = ops.size := by simp at this; omega
  rw [<- this]; exact h
 | cons o r ih =>
  intro i t wr hr hi h he; obtain ⟨h1, h2⟩ := zfj hr
  have ho : ops[i]? = some o := by simpa using h1
  have hi' : i < ops.size := (yaf.1 ho).1
  unfold wrOf at he
  cases hd : o.dst with
  | none =>
   rw [hd] at he; refine ih (i + 1) t wr h2 hi' (fun d k => ?_) he
   rw [h d k]; constructor
   ·rintro ⟨a, b⟩; exact ⟨by omega, b⟩
   ·rintro ⟨a, o', ho', hd'⟩
    refine ⟨?_, o', ho', hd'⟩
    rcases Nat.lt_succ_iff_lt_or_eq.1 a with a | rfl
    ·exact a
    ·rw [ho] at ho'; cases ho'; rw [hd] at hd'; cases hd'
  | some d0 =>
   rw [hd] at he; simp only [] at he
   cases hg : t.get d0 with
   | some x => rw [hg] at he; cases he
   | none =>
    rw [hg] at he; refine ih (i + 1) _ wr h2 hi' (fun d k => ?_) he
    rw [Tr.get_set]; by_cases hdd : d = d0
    ·subst hdd
     rw [if_pos rfl]; constructor
     ·intro e; cases e; exact ⟨Nat.lt_succ_self _, o, ho, hd⟩
     ·rintro ⟨a, o', ho', hd'⟩
      rcases Nat.lt_succ_iff_lt_or_eq.1 a with a | rfl
      ·have := (h d k).2 ⟨a, o', ho', hd'⟩
       rw [hg] at this; cases this
      ·rfl
    ·rw [if_neg hdd, h d k]
     constructor
     ·rintro ⟨a, b⟩; exact ⟨by omega, b⟩
     ·rintro ⟨a, o', ho', hd'⟩
      refine ⟨?_, o', ho', hd'⟩
      rcases Nat.lt_succ_iff_lt_or_eq.1 a with a | rfl
      ·exact a
      ·rw [ho] at ho'; cases ho'; rw [hd] at hd'; cases hd'; exact absurd rfl hdd
theorem zzb7 {ops : Array Oper} {wr anc : Tr Nat} {olds : List (Nat × List Nat)} : ∀ (r : List Oper) (i : Nat), r = ops.toList.drop i -> zzb8 wr anc olds r i = true →
  ∀ k o, i <= k -> ops[k]? = some o -> zys (zs2 anc k) o.guard = true /\ ∀ t ∈ zb4 o.op, z7k wr anc k (zc1 k olds) t = true := by
 intro r; induction r with
 | nil =>
  intro i hr _ k o hk ho; have : ops.toList.length <= i := by rw [<- List.drop_eq_nil_iff]; exact hr.symm
  have := (yaf.1 ho).1
  simp at *; omega
 | cons o r ih =>
  intro i hr h k o' hk ho; obtain ⟨h1, h2⟩ := zfj hr
  unfold zzb8 at h; rw [zar] at h; split at h
  ·rename_i h3
   rw [zar] at h; split at h
   ·rename_i h4
    rcases Nat.eq_or_lt_of_le hk with rfl | hk
    ·have : o' = o := by
      have : ops[i]? = some o := by simpa using h1
      rw [this] at ho; exact (Option.some.inj ho).symm
     subst this; rw [zcb, ybc] at h4; exact ⟨h3, h4⟩
    ·exact ih (i + 1) h2 h k o' hk ho
   ·cases h
  ·cases h
structure zrg (ops : Array Oper) (olds : List (Nat × List Nat)) (anc : Tr Nat) : Prop where
 back : Back ops
 before : ∀ k, zziy ops k (zs2 anc k)
 one : ∀ (i j : Nat) (o u : Oper) (d : Nat), ops[i]? = some o -> ops[j]? = some u -> o.dst = some d -> u.dst = some d -> i = j
 guard : ∀ (k : Nat) (o : Oper), ops[k]? = some o -> zys (zs2 anc k) o.guard = true
 name : ∀ (k : Nat) (o : Oper) (j : Nat) (u : Oper) (t : Nat), ops[k]? = some o -> ops[j]? = some u -> u.dst = some t -> t ∈ zb4 o.op -> if t ∈ zc1 k olds then j = k \/ tb (zs2 anc j) k = true else tb (zs2 anc k) j = true
theorem z7i {ops : Array Oper} {p : Plan} (h : zjt ops p = true) : ∃ anc D, zrg ops p.olds anc /\ zd8 ops.toList p.first 0 = some D /\ zcj ops.toList anc p.stages D = true := by
 change zyr ops.toList p = true at h
 unfold zyr at h; rw [zar] at h; split at h
 case isFalse => cases h
 rename_i hb
 cases hw : wrOf ops.toList 0 .leaf with
 | none => rw [hw] at h; cases h
 | some wr =>
  rw [hw] at h; simp only [] at h; rw [zar] at h; split at h
  case isFalse => cases h
  rename_i ho
  cases hl : zd8 ops.toList p.first 0 with
  | none => rw [hl] at h; cases h
  | some D =>
   rw [hl] at h; have wo : WrOk ops ops.size wr := zzf6 _ 0 _ _ rfl (Nat.zero_le _) (fun d k => by simp [Tr.get_leaf]) hw
   have oo := zzb7 _ 0 (by rfl) ho
   have wr' : ∀ k o d, ops[k]? = some o -> o.dst = some d -> wr.get d = some k := fun k o d h1 h2 => (wo d k).2 ⟨(yaf.1 h1).1, o, h1, h2⟩
   refine ⟨_, D, ⟨fun i o h1 => z7l _ 0 rfl hb i o (Nat.zero_le _) h1, zzd1 _ 0 _ rfl fun k S _ _ j hj => ?_, ?_, fun k o h1 => (oo k o (Nat.zero_le _) h1).1, ?_⟩, rfl, h⟩
   ·rw [z9a, ztq] at hj; cases hj
   ·intro i j o u d h1 h2 h3 h4
    have a := wr' i o d h1 h3
    rw [wr' j u d h2 h4] at a; exact (Option.some.inj a).symm
   ·intro k o j u t h1 h2 h3 h4
    have a := (oo k o (Nat.zero_le _) h1).2 t h4
    unfold z7k at a; rw [wr' j u t h2 h3] at a; simp only [] at a; rw [zar] at a; by_cases hm : zcx t (zc1 k p.olds) = true
    ·rw [if_pos hm] at a
     rw [if_pos ((zew _ _).1 hm)]
     rw [zar] at a; split at a
     ·rename_i e; exact .inl (zc0.1 e)
     ·exact .inr a
    ·rw [if_neg hm] at a
     rw [if_neg fun e => hm ((zew _ _).2 e)]
     exact a
theorem zir {ops : Array Oper} {i D D' : Nat} (h : zid ops.toList i D = some D') : ∃ o, ops[i]? = some o /\ tb D i = false /\ (∀ j, zko o j -> tb D j = true) /\ ∀ k, tb D' k = (tb D k || k == i) := by
 unfold zid at h; rw [zad] at h; obtain ⟨o, h1, h2⟩ := h
 rw [zbh] at h1; rw [zae] at h2; obtain ⟨h2, h3⟩ := h2
 cases h3; rw [zar] at h2; split at h2
 ·cases h2
 ·rename_i h4
  refine ⟨o, by simpa using h1, by simpa using h4, ?_, fun k => by rw [zzeb, z0h]; congr 1; exact Bool.beq_comm⟩
  rintro j ⟨e, he, hb, rfl⟩
  unfold topo at h2; rw [zcb, ybc] at h2; have := h2 e he
  rw [zkl, hb] at this; exact this
theorem z7j {ops : Array Oper} {h D : Nat} : ∀ (r : List Oper) (i : Nat), r = ops.toList.drop i -> z09 h D r i = true →
  ∀ k o, i <= k -> ops[k]? = some o -> tb D k = false -> (∀ j, zko o j -> tb D j = true) -> k = h := by
 intro r; induction r with
 | nil =>
  intro i hr _ k o hk ho; have : ops.toList.length <= i := by rw [<- List.drop_eq_nil_iff]; exact hr.symm
  have := (yaf.1 ho).1
  simp at *; omega
 | cons o r ih =>
  intro i hr h k o' hk ho; obtain ⟨h1, h2⟩ := zfj hr
  unfold z09 at h; rw [zar] at h; split at h
  ·rename_i h3
   rcases Nat.eq_or_lt_of_le hk with rfl | hk
   ·have : o' = o := by
     have : ops[i]? = some o := by simpa using h1
     rw [this] at ho; exact (Option.some.inj ho).symm
    subst this; intro hD hj; rw [hD] at h3; simp only [cond_false] at h3; rw [zar] at h3; split at h3
    ·rename_i e; exact zc0.1 e
    ·exfalso
     have : topo D o' = true := by
      unfold topo; rw [zcb, ybc]; intro e he
      cases hb : zq6 e with
      | false => rfl
      | true => exact hj e.on ⟨e, he, by rw [<- zkl]; exact hb, rfl⟩
     rw [this] at h3; cases h3
   ·exact ih (i + 1) h2 h k o' hk ho
  ·cases h
theorem z3f {ops : Array Oper} {m D : Nat} {again : List Nat} : ∀ (r : List Oper) (i : Nat), r = ops.toList.drop i -> zt6 m D again r i = true →
  ∀ k o, i <= k -> ops[k]? = some o -> tb D k = true -> tb m k = true \/ zt2 o.op = true \/ zgg o.op = true \/ k ∈ again := by
 intro r; induction r with
 | nil =>
  intro i hr _ k o hk ho; have : ops.toList.length <= i := by rw [<- List.drop_eq_nil_iff]; exact hr.symm
  have := (yaf.1 ho).1
  simp at *; omega
 | cons o r ih =>
  intro i hr h k o' hk ho; obtain ⟨h1, h2⟩ := zfj hr
  unfold zt6 at h; rw [zar] at h; split at h
  ·rename_i h3
   rcases Nat.eq_or_lt_of_le hk with rfl | hk
   ·have : o' = o := by
     have : ops[i]? = some o := by simpa using h1
     rw [this] at ho; exact (Option.some.inj ho).symm
    subst this; intro hD; rw [hD] at h3; simp only [cond_true] at h3; rw [zar] at h3; split at h3
    ·rename_i e; exact .inl e
    ·rw [zar] at h3
     split at h3
     ·rename_i e; exact .inr (.inl e)
     ·rw [zar] at h3
      split at h3
      ·rename_i e; exact .inr (.inr (.inl e))
      ·exact .inr (.inr (.inr ((zew _ _).1 h3)))
   ·exact ih (i + 1) h2 h k o' hk ho
  ·cases h
theorem zzb9 {ops : Array Oper} {D : Nat} : ∀ (r : List Oper) (i : Nat), r = ops.toList.drop i -> zzca D r i = true -> ∀ k, i <= k -> k < ops.size -> tb D k = true := by
 intro r; induction r with
 | nil =>
  intro i hr _ k hk ho; have : ops.toList.length <= i := by rw [<- List.drop_eq_nil_iff]; exact hr.symm
  simp at *; omega
 | cons o r ih =>
  intro i hr h k hk ho; obtain ⟨h1, h2⟩ := zfj hr
  unfold zzca at h; rw [zar] at h; split at h
  ·rename_i h3
   rcases Nat.eq_or_lt_of_le hk with rfl | hk
   ·exact h3
   ·exact ih (i + 1) h2 h k hk ho
  ·cases h
theorem zv0 {ops : Array Oper} {anc : Tr Nat} {D : Nat} (h : zcj ops.toList anc [] D = true) : ∀ k, k < ops.size -> tb D k = true :=
 fun k hk => zzb9 _ 0 rfl h k (Nat.zero_le _) hk
theorem zgt {ops : Array Oper} {anc : Tr Nat} {D : Nat} {st : zd4} {r : List zd4} (h : zcj ops.toList anc (st :: r) D = true) (hlt : st.heavy <= ops.size) :
  (∀ k o, ops[k]? = some o -> tb D k = false -> (∀ j, zko o j -> tb D j = true) -> k = st.heavy) ∧
  (∀ k o, ops[k]? = some o -> tb D k = true -> tb (zs2 anc st.heavy) k = true \/ zt2 o.op = true \/ zgg o.op = true \/ k ∈ st.again) ∧
  ∃ D1 D2, zid ops.toList st.heavy D = some D1 /\ zd8 ops.toList st.lights D1 = some D2 /\ zcj ops.toList anc r D2 = true := by
 unfold zcj at h; rw [zar, if_neg fun e => by have := zdl.1 e; rw [zbb] at this; simp at this; omega, zar] at h
 split at h
 case isFalse => cases h
 rename_i h1; rw [zar] at h; split at h
 case isFalse => cases h
 rename_i h2; refine ⟨fun k o a b c => z7j _ 0 rfl h1 k o (Nat.zero_le _) a b c, fun k o a b => z3f _ 0 rfl h2 k o (Nat.zero_le _) a b, ?_⟩
 cases h3 : zid ops.toList st.heavy D with
 | none => rw [h3] at h; cases h
 | some D1 =>
  rw [h3] at h; simp only [zac] at h
  cases h4 : zd8 ops.toList st.lights D1 with
  | none => rw [h4] at h; cases h
  | some D2 => rw [h4] at h; exact ⟨D1, D2, rfl, h4, h⟩
theorem zru {ops : Array Oper} {anc : Tr Nat} {D : Nat} {st : zd4} {r : List zd4} (h : zcj ops.toList anc (st :: r) D = true) (hlt : ops.size < st.heavy) :
  ∃ o D1 D2, ops[st.heavy - (ops.size + 1)]? = some o /\ zgg o.op = true /\ zid ops.toList (st.heavy - (ops.size + 1)) D = some D1 /\ zd8 ops.toList st.lights D1 = some D2 /\ zcj ops.toList anc r D2 = true := by
 have e0 : Nat.sub st.heavy (Nat.succ (zbw ops.toList)) = st.heavy - (ops.size + 1) := by rw [zbb]; simp
 unfold zcj at h; rw [zar, if_pos (zdl.2 (by rw [zbb]; simpa using hlt)), zar, e0] at h
 split at h
 case isFalse => cases h
 rename_i h1
 cases h3 : zid ops.toList (st.heavy - (ops.size + 1)) D with
 | none => rw [h3] at h; cases h
 | some D1 =>
  rw [h3] at h; simp only [zac] at h
  cases h4 : zd8 ops.toList st.lights D1 with
  | none => rw [h4] at h; cases h
  | some D2 =>
   rw [h4] at h; rw [zbh] at h1
   cases ho : ops.toList[st.heavy - (ops.size + 1)]? with
   | none => rw [ho] at h1; cases h1
   | some o => rw [ho] at h1; exact ⟨o, D1, D2, by simpa using ho, h1, rfl, h4, h⟩
end Go.Am
namespace Go.Am
open Go Go.RowKit
section
variable {P : Program} {C : Ctx} {μ : Mu} {all : Array Oper} {olds : List (Nat × List Nat)} {anc : Tr Nat} {n : Nat} {old tm : Tm} {D : Nat} {S : Nat -> Bool} {order : List Nat} {tmps : Array Value} {ds : List Deferred}
theorem zkr : zaq μ zbr undef := by rw [zbr, zaq]; exact ⟨#[], rfl, rfl⟩
theorem z9l {e : Env} (hg : ∀ g, g < 256 -> μ g = some ⟨g, true, 0, 0, true⟩) (ht : ∀ t v, zzaw t e = some v -> zaq μ v (tmps.getD t undef)) : zht μ e (Act.eval ⟨tmps, ds⟩) := by
 intro x v h
 cases x with
 | tmp t => exact ht t v h
 | const c => exact zyt h
 | global g =>
  change zxt g e = some v at h
  unfold zxt at h; rw [zar] at h; split at h
  ·rename_i hlt
   cases h; rw [zaq]; exact ⟨_, hg g (zdl.1 hlt), rfl⟩
  ·cases h
 | func f =>
  change xFunc f e = some v at h
  cases h; rw [zaq]; exact ⟨.func f, #[], #[], rfl, rfl, rfl, rfl⟩
theorem zcm.erel (hg : ∀ g, g < 256 -> μ g = some ⟨g, true, 0, 0, true⟩) (h : zcm μ n tm tmps) : zht μ (.now tm) (Act.eval ⟨tmps, ds⟩) :=
 z9l hg fun t v hv => h.2 t v hv
theorem Tm.get_set {t : Tm} {i j : Nat} {x : zab} : (t.set i x).get j = if j = i then some x else t.get j := by
 unfold Tm.set Tm.get; simp only [zm1]; by_cases h : Nat.blt i t.k = true
 ·rw [if_pos h]
  simp only []; by_cases hj : j = i
  ·subst hj; rw [if_pos h, if_pos rfl, Tr.get_set, if_pos rfl]
  ·rw [if_neg hj, Tr.get_set, if_neg hj]
 ·rw [if_neg h]
  simp only []; have as : zzd0 j ((i, x) :: t.t) = if j = i then some x else zzd0 j t.t := by
   show (Bool.rec (motive := fun _ => Option zab) (zzd0 j t.t) (some x) (Nat.beq j i)) = _
   rw [zm1]; by_cases hj : j = i
   ·rw [if_pos (zc0.2 hj), if_pos hj]
   ·rw [if_neg (fun e => hj (zc0.1 e)), if_neg hj]
  by_cases hj : j = i
  ·subst hj; rw [if_neg h, if_pos rfl, as, if_pos rfl]
  ·rw [if_neg hj]
   rw [as, if_neg hj]
theorem zb1 {dst : Option Nat} {v : zab} {t : Nat} : (putA n tm dst v).get t = if dst = some t /\ t < n then some v else tm.get t := by
 unfold putA putB
 cases dst with
 | none => simp [putNo]
 | some d =>
  simp only [zzb3]; rw [zar]; by_cases h : Nat.blt d n = true
  ·rw [if_pos h, Tm.get_set]
   by_cases e : t = d
   ·subst e; rw [if_pos rfl, if_pos ⟨rfl, zdl.1 h⟩]
   ·rw [if_neg e, if_neg fun k => e (Option.some.inj k.1).symm]
  ·rw [if_neg h, if_neg]
   rintro ⟨e, h2⟩
   cases e
   exact h (zdl.2 h2)
def zmj (tm old : Tm) (olds : List (Nat × List Nat)) (i : Nat) (o : Oper) : Env := .mixed tm old (zc1 i olds) (zb4 o.op)
structure zcp (μ : Mu) (all : Array Oper) (olds : List (Nat × List Nat)) (anc : Tr Nat) (n : Nat) (old tm : Tm) (D : Nat) (S : Nat -> Bool) (order : List Nat) (tmps : Array Value) : Prop where
 reg : zrg all olds anc
 sched : zzd5 all S order
 sub : ∀ i, S i = true -> tb D i = true
 closed : zlq all S
 dclosed : zlq all (tb D)
 size : tmps.size = n
 now : ∀ (i : Nat) (o : Oper) (d : Nat) (v : zab), all[i]? = some o -> o.dst = some d -> S i = true -> d < n -> tm.get d = some v -> zaq μ v (tmps.getD d undef)
 past : ∀ (d : Nat) (v : zab), d < n -> (∀ (i : Nat) (o : Oper), all[i]? = some o -> o.dst = some d -> S i = false) -> old.get d = some v -> zaq μ v (tmps.getD d undef)
 keep : ∀ d : Nat, d < n -> (∀ (i : Nat) (o : Oper), all[i]? = some o -> o.dst = some d -> tb D i = false) -> tm.get d = old.get d
 big : ∀ (d : Nat) (v : zab), n <= d -> (tm.get d = some v \/ old.get d = some v) -> zaq μ v undef
theorem zrg.up (R : zrg all olds anc) (hS : zlq all S) {i j : Nat} {o : Oper} (ho : all[i]? = some o) (hp : ∀ j, zko o j -> S j = true) (h : tb (zs2 anc i) j = true) : S j = true :=
 R.before i S hS (fun o' ho' => by rw [ho] at ho'; cases ho'; exact hp) j h
theorem zk0 {d : Nat} (h : tmps.size <= d) : tmps.getD d undef = undef := by
 simp [Array.getD, Nat.not_lt.2 h]
theorem zcp.erel (R : zcp μ all olds anc n old tm D S order tmps) (hg : ∀ g, g < 256 -> μ g = some ⟨g, true, 0, 0, true⟩) {i : Nat} {o : Oper} (ho : all[i]? = some o) (hi : S i = false) (hp : ∀ j, zko o j -> S j = true) :
  zht μ (zmj tm old olds i o) (Act.eval ⟨tmps, ds⟩) := by
 refine z9l hg fun t v h => ?_
 unfold zmj at h; simp only [zzaw] at h; rw [zar] at h; split at h
 case isFalse => cases h
 rename_i hn; have hn := (zew _ _).1 hn
 by_cases hd : t < n
 ·by_cases hw : ∃ (j : Nat) (u : Oper), all[j]? = some u /\ u.dst = some t
  ·obtain ⟨j, u, hu, hud⟩ := hw
   have nm := R.reg.name i o j u t ho hu hud hn
   by_cases hold : t ∈ zc1 i olds
   ·rw [if_pos hold] at nm
    rw [(zew _ _).2 hold] at h
    simp only [cond_true] at h; have hj : S j = false := by
     rcases nm with rfl | nm
     ·exact hi
     ·cases hj : S j with
      | false => rfl
      | true =>
       have := R.reg.up R.closed hu (fun k hk => R.closed j u hu hj k hk) nm
       rw [hi] at this; cases this
    refine R.past t v hd (fun i' o' ho' hd' => ?_) h
    have := R.reg.one i' j o' u t ho' hu hd' hud
    rw [this]; exact hj
   ·rw [if_neg hold] at nm
    have : zcx t (zc1 i olds) = false := by
     cases hm : zcx t (zc1 i olds) with
     | false => rfl
     | true => exact absurd ((zew _ _).1 hm) hold
    rw [this] at h; simp only [cond_false] at h; exact R.now j u t v hu hud (R.reg.up R.closed ho hp nm) hd h
  ·have none1 : ∀ (i : Nat) (o : Oper), all[i]? = some o -> o.dst = some t -> S i = false := fun i o h1 h2 => absurd ⟨i, o, h1, h2⟩ hw
   have k := R.keep t hd fun i o h1 h2 => absurd ⟨i, o, h1, h2⟩ hw
   refine R.past t v hd none1 ?_
   cases hm : zcx t (zc1 i olds) with
   | false => rw [hm] at h; rw [<- k]; exact h
   | true => rw [hm] at h; exact h
 ·rw [zk0 (by rw [R.size]; omega)]
  refine R.big t v (by omega) ?_
  cases hm : zcx t (zc1 i olds) with
  | false => rw [hm] at h; exact .inl h
  | true => rw [hm] at h; exact .inr h
theorem zu4 {v : zab} {b : Bool} (h : zaq μ v (.bool b)) : v = .bool b := by
 cases v <;> rw [zaq] at h
 case bool => cases h; rfl
 all_goals simp at h
theorem zcp.wanted (R : zcp μ all olds anc n old tm D S order tmps) {i : Nat} {o : Oper} {w : Bool} (ho : all[i]? = some o) (hp : ∀ j, zko o j -> S j = true) (h : zbd o.guard all tm = some w) :
  Region.wanted o (yielded all tmps) = w := by
 have hgd := R.reg.guard i o ho
 unfold zbd z4w at h; unfold Region.wanted
 cases hg : o.guard with
 | none => rw [hg] at h; cases h; rfl
 | some jw =>
  obtain ⟨j, want⟩ := jw
  rw [hg] at h hgd; simp only [zu3, zad, zbh] at h; obtain ⟨d, ⟨u, hu, hud⟩, v, hv, h⟩ := h
  have hu' : all[j]? = some u := by simpa using hu
  have hj : S j = true := R.reg.up R.closed ho hp hgd
  have hy : yielded all tmps j = match tmps[d]? with | some (.bool b) => some b | _ => none := by
   unfold yielded; rw [hu']; simp [hud]
   rfl
  simp only []; rw [hy]; by_cases hd : d < n
  ·have hs : d < tmps.size := by rw [R.size]; exact hd
   have rel := R.now j u d v hu' hud hj hd hv
   have e1 : tmps[d]? = some (tmps.getD d undef) := by simp [Array.getD, hs]
   rw [e1]; generalize tmps.getD d undef = x at rel
   cases hb : v.asBool with
   | some b =>
    rw [hb] at h; have : v = .bool b := by cases v <;> simp [zab.asBool] at hb; rw [hb]
    rw [this, zaq] at rel; subst rel; simp only [Option.some.injEq] at h; rw [<- h, zon]
    cases b <;> cases want <;> rfl
   | none =>
    rw [hb] at h
    cases h
    cases x with
    | bool b => rw [zu4 rel] at hb; cases hb
    | _ => rfl
  ·have e1 : tmps[d]? = none := by simp [R.size]; omega
   rw [e1]; have rel := R.big d v (by omega) (.inl hv)
   cases hb : v.asBool with
   | some b =>
    have : v = .bool b := by cases v <;> simp [zab.asBool] at hb; rw [hb]
    rw [this, zaq] at rel
    cases rel
   | none => rw [hb] at h; cases h; rfl
theorem zcp.did {i : Nat} {D' : Nat} {tm' : Tm} {v : zab} {v' : Value} {o : Oper} (R : zcp μ all olds anc n old tm D S (i :: order) tmps) (ho : all[i]? = some o)
  (hD : ∀ k, tb D' k = (tb D k || k == i)) (hput : ∀ d, o.dst = some d -> d < n -> tm'.get d = some v) (hother : ∀ d, (o.dst = some d -> n <= d) -> tm'.get d = tm.get d) (hv : zaq μ v v') :
  zcp μ all olds anc n old tm' D' (fun k => S k || k == i) order (Act.put ⟨tmps, ds⟩ o.dst v').tmps := by
 obtain ⟨o', ho', hi, hp, hs⟩ := R.sched
 rw [ho] at ho'; cases ho'
 have htm : ∀ d, (Act.put ⟨tmps, ds⟩ o.dst v').tmps.getD d undef = if o.dst = some d /\ d < n then v' else tmps.getD d undef := by
  intro d; unfold Act.put
  cases hd : o.dst with
  | none => simp
  | some d0 =>
   simp only [Array.getD_eq_getD_getElem?, Array.getElem?_setIfInBounds]; by_cases e : d0 = d
   ·subst e
    by_cases hn : d0 < n
    ·simp [hn, R.size]
    ·simp [hn, R.size]
   ·simp [e]
 have hsz : (Act.put ⟨tmps, ds⟩ o.dst v').tmps.size = n := by
  unfold Act.put
  cases o.dst <;> simp [R.size]
 refine ⟨R.reg, hs, fun k hk => ?_, ?_, ?_, hsz, ?_, ?_, ?_, ?_⟩
 ·rw [hD]
  simp only [Bool.or_eq_true] at hk ⊢
  exact hk.imp (R.sub k) id
 ·intro k u hu hk j hj
  simp only [Bool.or_eq_true, beq_iff_eq] at hk ⊢
  rcases hk with hk | rfl
  ·exact .inl (R.closed k u hu hk j hj)
  ·rw [ho] at hu; cases hu
   exact .inl (hp j hj)
 ·intro k u hu hk j hj
  rw [hD] at hk ⊢
  simp only [Bool.or_eq_true, beq_iff_eq] at hk ⊢
  rcases hk with hk | rfl
  ·exact .inl (R.dclosed k u hu hk j hj)
  ·rw [ho] at hu; cases hu
   exact .inl (R.sub j (hp j hj))
 ·intro k u d x hu hud hk hd hx
  rw [htm]; by_cases e : o.dst = some d
  ·rw [if_pos ⟨e, hd⟩]
   rw [hput d e hd] at hx; cases hx; exact hv
  ·rw [if_neg fun h => e h.1]
   rw [hother d fun h => absurd h e] at hx; refine R.now k u d x hu hud ?_ hd hx
   simp only [Bool.or_eq_true, beq_iff_eq] at hk; rcases hk with hk | rfl
   ·exact hk
   ·rw [ho] at hu; cases hu; exact absurd hud e
 ·intro d x hd hw hx
  rw [htm]; have e : o.dst ≠ some d := fun e => by
   have := hw i o ho e
   simp at this
  rw [if_neg fun h => e h.1]; refine R.past d x hd (fun k u hu hud => ?_) hx
  have := hw k u hu hud
  simp only [Bool.or_eq_false_iff] at this; exact this.1
 ·intro d hd hw
  have e : o.dst ≠ some d := fun e => by
   have := hw i o ho e
   rw [hD] at this; simp at this
  rw [hother d fun h => absurd h e]; refine R.keep d hd fun k u hu hud => ?_
  have := hw k u hu hud
  rw [hD] at this; simp only [Bool.or_eq_false_iff] at this; exact this.1
 ·intro d x hd hx
  refine R.big d x hd ?_
  rw [hother d fun _ => hd] at hx; exact hx
end
end Go.Am
namespace Go.Am.HM
open Go Go.Am
def HLe (H H' : zai) : Prop := ∀ b y, H.t.get b = some y -> H'.t.get b = some y
section
variable {H HA : zai} {e : Env} {C : Ctx} {v : zab}
theorem zck (h : HLe H HA) {b : Nat} {p : Tr zab × Nat × Option Nat} (hb : za1 H b = some p) : za1 HA b = some p := by
 unfold za1 at hb ⊢; rw [zad] at hb ⊢; obtain ⟨y, h1, h2⟩ := hb; exact ⟨y, h _ _ h1, h2⟩
theorem zfv (h : HLe H HA) {b : Nat} {p : List (zab × zab)} (hb : zgj H b = some p) : zgj HA b = some p := by
 unfold zgj at hb ⊢; rw [zad] at hb ⊢; obtain ⟨y, h1, h2⟩ := hb; exact ⟨y, h _ _ h1, h2⟩
theorem znw (h : HLe H HA) {s d : ATy} {a : zab} (hx : znx C s d a H = some v) : znx C s d a HA = some v := by
 unfold znx at hx ⊢
 split at hx
 ·rename_i k hk; exact hx
 ·rename_i hk
  rw [zae] at hx ⊢
  refine ⟨hx.1, ?_⟩
  have hx := hx.2
  rw [zar] at hx ⊢
  split at hx
  ·rename_i e; rw [if_pos e]; exact hx
  ·rename_i e
   rw [if_neg e]; simp only [zad, zae] at hx ⊢
   obtain ⟨a1, h1, b1, h2, k1, h3, h4, h5⟩ := hx
   refine ⟨a1, h1, b1, h2, k1, h3, h4, ?_⟩
   unfold zi2 at h5 ⊢
   split at h5
   ·simp only [zad] at h5 ⊢
    obtain ⟨c, g1, g2⟩ := h5
    exact ⟨c, zck h g1, g2⟩
   ·exact h5
theorem zib (h : HLe H HA) {b size cap l : Nat} {arr : Bool} (hx : zcw H b size cap l arr = true) : zcw HA b size cap l arr = true := by
 unfold zcw at hx ⊢
 cases hc : za1 H b with
 | none => rw [hc] at hx; cases hx
 | some c => rw [hc] at hx; rw [zck h hc]; exact hx
theorem zlu (h : HLe H HA) {ty : ATy} {a : zab} {l r : Option zab} (hx : zhy C H ty a l r = some v) : zhy C HA ty a l r = some v := by
 have row : ∀ {arr e b off len cap}, zd6 C H arr e b off len cap l r = some v -> zd6 C HA arr e b off len cap l r = some v := by
  intro arr e b off len cap hx; unfold zd6 at hx ⊢
  simp only [zad, zae, yac] at hx ⊢
  obtain ⟨a1, h1, b1, h2, ⟨h3, h4⟩, h5⟩ := hx
  exact ⟨a1, h1, b1, h2, ⟨h3, zib h h4⟩, h5⟩
 unfold zhy at hx ⊢
 split at hx
 ·exact hx
 ·split at hx
  ·rw [zad] at hx ⊢; obtain ⟨a1, h1, h2⟩ := hx; exact ⟨a1, h1, row h2⟩
  ·split at hx
   ·rw [zad] at hx ⊢; obtain ⟨a1, h1, h2⟩ := hx; exact ⟨a1, h1, row h2⟩
   ·exact hx
theorem znm (h : HLe H HA) {m : zab} {l : List (zab × zab)} (hx : zrv H m = some l) : zrv HA m = some l := by
 unfold zrv at hx ⊢
 split at hx
 ·exact zfv h hx
 ·exact hx
theorem zqn (h : HLe H HA) {ty : ATy} {a : zab} {n : Nat} (hx : z78 H ty a = some n) : z78 HA ty a = some n := by
 unfold z78 at hx ⊢
 split at hx
 ·exact hx
 ·split at hx
  ·exact hx
  ·split at hx
   ·exact hx
   ·split at hx
    ·rw [zae, zad] at hx ⊢
     obtain ⟨h1, l, h2, h3⟩ := hx
     exact ⟨h1, l, zfv h h2, h3⟩
    ·exact hx
theorem alight_mono (h : HLe H HA) {o : Op} (hx : (zb6 o).f C e H = some v) : (zb6 o).f C e HA = some v := by
 cases o <;> first | exact hx | skip
 case makeFunc fn a b => cases fn <;> exact hx
 case load t a =>
  change znp t a C e H = some v at hx
  show znp t a C e HA = some v
  unfold znp at hx ⊢
  simp only [zad] at hx ⊢
  obtain ⟨a1, h1, p, h2, y, h3, c, h4, h5⟩ := hx
  exact ⟨a1, h1, p, h2, y, h3, c, zck h h4, h5⟩
 case convert s d x =>
  change zk8 s d x C e H = some v at hx
  show zk8 s d x C e HA = some v
  unfold zk8 at hx ⊢
  simp only [zad] at hx ⊢
  obtain ⟨a1, h1, b1, h2, c1, h3, h4⟩ := hx
  exact ⟨a1, h1, b1, h2, c1, h3, znw h h4⟩
 case slice t x lo hi mx =>
  cases mx with
  | some m => exact hx
  | none =>
   change zmo t x lo hi C e H = some v at hx
   show zmo t x lo hi C e HA = some v
   unfold zmo at hx ⊢
   simp only [zad] at hx ⊢
   obtain ⟨a1, h1, b1, h2, c1, h3, d1, h4, h5⟩ := hx
   exact ⟨a1, h1, b1, h2, c1, h3, d1, h4, zlu h h5⟩
 case lookup t x i ok =>
  change zhh t x i ok C e H = some v at hx
  show zhh t x i ok C e HA = some v
  unfold zhh at hx ⊢
  simp only [zad, zae] at hx ⊢
  obtain ⟨a1, h1, b1, h2, c1, h3, h4, d1, h5, m, h6, es, h7, h8⟩ := hx
  exact ⟨a1, h1, b1, h2, c1, h3, h4, d1, h5, m, h6, es, znm h h7, h8⟩
 case call c =>
  change (zgb c c.callee).f C e H = some v at hx
  show (zgb c c.callee).f C e HA = some v
  cases hc : c.callee with
  | builtin b =>
   rw [hc] at hx
   cases b <;> first | exact hx | skip
   case len =>
    change z1m c C e H = some v at hx
    show z1m c C e HA = some v
    unfold z1m at hx ⊢
    simp only [zad] at hx ⊢
    obtain ⟨a1, h1, b1, h2, c1, h3, d1, h4, n, h5, h6⟩ := hx
    exact ⟨a1, h1, b1, h2, c1, h3, d1, h4, n, zqn h h5, h6⟩
  | _ => rw [hc] at hx; exact hx
end
end Go.Am.HM
namespace Go.Am
open Go Go.RowKit
theorem zz4 {o : Op} (h : zt2 o = true) (C : Ctx) (e : Env) (H H' : zai) : (zb6 o).f C e H = (zb6 o).f C e H' := by
 cases o <;> first | (simp [zt2] at h; done) | rfl | skip
 case makeFunc fn a b => cases fn <;> rfl
theorem zxj {e e' : Env} (h : ∀ x, ev x e = ev x e') (o : Op) (C : Ctx) (H : zai) : (zb6 o).f C e H = (zb6 o).f C e' H := by
 have hs : ∀ l, evs l e = evs l e' := fun l => by unfold evs; rw [funext h]
 have hp : ∀ l, evp l e = evp l e' := fun l => by unfold evp; simp only [h]
 have ho : ∀ x, evo x e = evo x e' := fun x => by cases x <;> simp [evo, h]
 cases o <;> first | rfl | skip
 case move x => exact h x
 case assign x => exact h x
 case pick c a b => simp only [zb6, z8c, h]
 case load t a => simp only [zb6, znp, h]
 case nilCheck x => simp only [zb6, zzcq, h]
 case binOp op t x y z => simp only [zb6, zwj, h]
 case unOp op t x => simp only [zb6, lUn, h]
 case convert s d x => simp only [zb6, zk8, h]
 case makeInterface t x => simp only [zb6, zoi, h]
 case makeFunc fn a b => cases fn <;> simp only [zb6, zkh, z8l, zt7, hs]
 case slice t x lo hi mx => cases mx <;> simp only [zb6, zmn, zmo, zt7, h, ho]
 case fieldAddr s x f => simp only [zb6, zdk, h]
 case field t x f => simp only [zb6, zok, h]
 case indexAddr t x i => simp only [zb6, zdj, h]
 case index t x i => simp only [zb6, zkg, h]
 case extract t i => simp only [zb6, zff, h]
 case build t ps => simp only [zb6, zlk, hp]
 case typeAssert x a u ok => simp only [zb6, zhi, h]
 case lookup t x i ok => simp only [zb6, zhh, h]
 case call c =>
  have h2 : two c e = two c e' := by unfold two; split <;> simp only [h]
  simp only [zb6, lCall]
  cases c.callee with
  | builtin b => cases b <;> simp only [zgb, zt8, zt7, z1m, z8h, z8f, h, h2]
  | _ => rfl
theorem z15 {e e' : Env} (h : ∀ t, zzaw t e = zzaw t e') (x : Operand) : ev x e = ev x e' := by
 cases x with
 | tmp t => exact h t
 | _ => rfl
theorem zqd {tm tm' old : Tm} {olds : List (Nat × List Nat)} {i : Nat} {o : Oper} (h : ∀ t ∈ zb4 o.op, t ∉ zc1 i olds -> tm'.get t = tm.get t) (C : Ctx) (H : zai) :
  (zb6 o.op).f C (zmj tm' old olds i o) H = (zb6 o.op).f C (zmj tm old olds i o) H := by
 refine zxj (z15 fun t => ?_) _ _ _
 simp only [zmj, zzaw]
 cases hn : zcx t (zb4 o.op) with
 | false => rfl
 | true =>
  cases hm : zcx t (zc1 i olds) with
  | true => rfl
  | false => exact h t ((zew _ _).1 hn) fun k => by rw [(zew _ _).2 k] at hm; cases hm
section
variable {P : Program} {C : Ctx} {μ : Mu} {H H' : zai} {all : Array Oper} {olds : List (Nat × List Nat)} {anc : Tr Nat} {n : Nat} {old tm tm' : Tm} {D : Nat} {S : Nat -> Bool} {order : List Nat} {tmps : Array Value} {ds : List Deferred}
structure zuz (C : Ctx) (H : zai) (all : Array Oper) (olds : List (Nat × List Nat)) (n : Nat) (old tm : Tm) (i : Nat) (o : Oper) (w : Bool) (v : zab) : Prop where
 op : all[i]? = some o
 want : zbd o.guard all tm = some w
 val : if w = true then (zb6 o.op).f C (zmj tm old olds i o) H = some v else v = zbr
 put : ∀ d, o.dst = some d -> d < n -> tm.get d = some v
theorem zuz.pure {i : Nat} {o : Oper} {w : Bool} {v : zab} (h : zuz C H all olds n old tm i o w v) (hp : zt2 o.op = true) (H' : zai) : zuz C H' all olds n old tm i o w v :=
 ⟨h.op, h.want, by have := h.val; cases w with | false => exact this | true => rw [if_pos rfl] at this ⊢; rw [<- this]; exact zz4 hp _ _ _ _, h.put⟩
theorem zmh (R : zrg all olds anc) (hD : zlq all (tb D)) {i k : Nat} {o u : Oper} (ho : all[i]? = some o) (hi : tb D i = true \/ (i = k /\ ∀ j, zko o j -> tb D j = true)) (hu : all[k]? = some u) (hk : tb D k = false) :
  (∀ t ∈ zb4 o.op, t ∉ zc1 i olds -> u.dst ≠ some t) /\ (∀ j w, o.guard = some (j, w) -> ∀ g, all[j]? = some g -> ∀ d, g.dst = some d -> u.dst ≠ some d) := by
 have up : ∀ j, tb (zs2 anc i) j = true -> tb D j = true := fun j hj => R.up hD ho (by
  rcases hi with hi | ⟨_, hi⟩
  ·exact fun j hj => hD i o ho hi j hj
  ·exact hi) hj
 constructor
 ·intro t ht hto e
  have := R.name i o k u t ho hu e ht
  rw [if_neg hto] at this; have := up k this
  rw [hk] at this; cases this
 ·intro j w hg g hgj d hd e
  have h1 := R.guard i o ho
  rw [hg] at h1; have h2 := up j h1
  have := R.one j k g u d hgj hu hd e
  rw [this, hk] at h2; cases h2
theorem zf3 {o : Oper} (h : ∀ j w, o.guard = some (j, w) -> ∀ g, all[j]? = some g -> ∀ d, g.dst = some d -> tm'.get d = tm.get d) : zbd o.guard all tm' = zbd o.guard all tm := by
 unfold zbd z4w
 cases hg : o.guard with
 | none => rfl
 | some jw =>
  obtain ⟨j, w⟩ := jw
  simp only [zu3, zbh]
  cases hj : all.toList[j]? with
  | none => rfl
  | some g =>
   simp only [zac]
   cases hd : g.dst with
   | none => rfl
   | some d => simp only [zac]; rw [h j w hg g (by simpa using hj) d hd]
theorem zuz.keep (R : zrg all olds anc) (hD : zlq all (tb D)) {i k : Nat} {o u : Oper} {w : Bool} {v x : zab} (h : zuz C H all olds n old tm i o w v) (hi : tb D i = true) (hu : all[k]? = some u) (hk : tb D k = false) :
  zuz C H all olds n old (putA n tm u.dst x) i o w v := by
 obtain ⟨r1, r2⟩ := zmh R hD h.op (.inl hi) hu hk
 refine ⟨h.op, ?_, ?_, ?_⟩
 ·rw [zf3 (tm := tm) fun j w hg g hj d hd => by rw [zb1, if_neg fun e => r2 j w hg g hj d hd e.1]]
  exact h.want
 ·have := h.val
  cases w with
  | false => exact this
  | true =>
   rw [if_pos rfl] at this ⊢
   rw [zqd (tm := tm) fun t ht hto => by rw [zb1, if_neg fun e => r1 t ht hto e.1]]
   exact this
 ·intro d hd hn
  rw [zb1, if_neg]
  ·exact h.put d hd hn
  ·rintro ⟨e, _⟩
   have := R.one i k o u d h.op hu hd e
   rw [this, hk] at hi; cases hi
theorem zuz.grow {i : Nat} {o : Oper} {w : Bool} {v : zab} (h : zuz C H all olds n old tm i o w v) (hle : HM.HLe H H') : zuz C H' all olds n old tm i o w v :=
 ⟨h.op, h.want, by have := h.val; cases w with | false => exact this | true => rw [if_pos rfl] at this ⊢; exact HM.alight_mono hle this, h.put⟩
structure zrj (C : Ctx) (μ : Mu) (dp : Nat) (all : Array Oper) (olds : List (Nat × List Nat)) (n : Nat) (old tm : Tm) (i : Nat) (o : Oper) (v : zab) : Prop where
 op : all[i]? = some o
 flo : zgg o.op = true
 want : zbd o.guard all tm = some true
 val : ∃ H0 l, (aop o.op).f C (zmj tm old olds i o) H0 = .val v (za7 H0 l none) /\ μ.pd H0.next = some (.cells (Tr.ofList l) (zbw l) none, dp, i)
 put : ∀ d, o.dst = some d -> d < n -> tm.get d = some v
structure Mu.ln (dp : Nat) (μ ν : Mu) : Prop where
 f : ∀ a i, μ a = some i -> ν a = some i
 pd : ∀ a x j, μ.pd a = some (x, dp, j) -> ν.pd a = some (x, dp, j)
instance {dp : Nat} {μ ν : Mu} : CoeOut (μ.ln dp ν) (μ.lw ν) := ⟨Mu.ln.f⟩
theorem Mu.le.ln {μ ν : Mu} (h : μ.le ν) (dp : Nat) : μ.ln dp ν := ⟨h.f, fun a x j k => by rw [h.pd]; exact k⟩
instance {dp : Nat} {μ ν : Mu} : Coe (μ.le ν) (μ.ln dp ν) := ⟨fun h => h.ln dp⟩
theorem Mu.ln_refl (μ : Mu) (dp : Nat) : μ.ln dp μ := ⟨fun _ _ h => h, fun _ _ _ h => h⟩
theorem Mu.ln_trans {dp : Nat} {a b c : Mu} (h : a.ln dp b) (k : b.ln dp c) : a.ln dp c := ⟨fun x i hx => k.f x i (h.f x i hx), fun x y j hx => k.pd x y j (h.pd x y j hx)⟩
theorem zrj.mono {ν : Mu} {dp : Nat} (h : μ.ln dp ν) {i : Nat} {o : Oper} {v : zab} (p : zrj C μ dp all olds n old tm i o v) : zrj C ν dp all olds n old tm i o v := by
 obtain ⟨H0, l, h1, h2⟩ := p.val
 exact ⟨p.op, p.flo, p.want, ⟨H0, l, h1, h.pd _ _ _ h2⟩, p.put⟩
theorem zlm {tm tm' old : Tm} {i : Nat} {o : Oper} (hf : zgg o.op = true) (h : ∀ t ∈ zb4 o.op, t ∉ zc1 i olds -> tm'.get t = tm.get t) (C : Ctx) (H : zai) :
  (aop o.op).f C (zmj tm' old olds i o) H = (aop o.op).f C (zmj tm old olds i o) H := by
 refine zzd (z15 fun t => ?_) hf _
 simp only [zmj, zzaw]
 cases hn : zcx t (zb4 o.op) with
 | false => rfl
 | true =>
  cases hm : zcx t (zc1 i olds) with
  | true => rfl
  | false => exact h t ((zew _ _).1 hn) fun k => by rw [(zew _ _).2 k] at hm; cases hm
theorem zrj.keep {dp : Nat} (R : zrg all olds anc) (hD : zlq all (tb D)) {i k : Nat} {o u : Oper} {v x : zab} (h : zrj C μ dp all olds n old tm i o v) (hi : tb D i = true) (hu : all[k]? = some u) (hk : tb D k = false) :
  zrj C μ dp all olds n old (putA n tm u.dst x) i o v := by
 obtain ⟨r1, r2⟩ := zmh R hD h.op (.inl hi) hu hk
 obtain ⟨H0, l, h1, h2⟩ := h.val
 refine ⟨h.op, h.flo, ?_, ⟨H0, l, ?_, h2⟩, ?_⟩
 ·rw [zf3 (tm := tm) fun j w hg g hj d hd => by rw [zb1, if_neg fun e => r2 j w hg g hj d hd e.1]]
  exact h.want
 ·rw [zlm (tm := tm) h.flo fun t ht hto => by rw [zb1, if_neg fun e => r1 t ht hto e.1]]
  exact h1
 ·intro d hd hn
  rw [zb1, if_neg]
  ·exact h.put d hd hn
  ·rintro ⟨e, _⟩
   have := R.one i k o u d h.op hu hd e
   rw [this, hk] at hi; cases hi
theorem zrj.fresh {dp : Nat} (R : zrg all olds anc) (hD : zlq all (tb D)) {i : Nat} {o : Oper} {v : zab} (ho : all[i]? = some o) (hp : ∀ j, zko o j -> tb D j = true) (hi : tb D i = false)
  (hf : zgg o.op = true) (hw : zbd o.guard all tm = some true) (hv : ∃ H0 l, (aop o.op).f C (zmj tm old olds i o) H0 = .val v (za7 H0 l none) /\ μ.pd H0.next = some (.cells (Tr.ofList l) (zbw l) none, dp, i)) :
  zrj C μ dp all olds n old (putA n tm o.dst v) i o v := by
 obtain ⟨r1, r2⟩ := zmh R hD ho (.inr ⟨rfl, hp⟩) ho hi
 obtain ⟨H0, l, h1, h2⟩ := hv
 refine ⟨ho, hf, ?_, ⟨H0, l, ?_, h2⟩, ?_⟩
 ·rw [zf3 (tm := tm) fun j w hg g hj d hd => by rw [zb1, if_neg fun e => r2 j w hg g hj d hd e.1]]
  exact hw
 ·rw [zlm (tm := tm) hf fun t ht hto => by rw [zb1, if_neg fun e => r1 t ht hto e.1]]
  exact h1
 ·intro d hd hn
  rw [zb1, if_pos ⟨hd, hn⟩]
theorem zuz.fresh (R : zrg all olds anc) (hD : zlq all (tb D)) {i : Nat} {o : Oper} {w : Bool} {v : zab} (ho : all[i]? = some o) (hp : ∀ j, zko o j -> tb D j = true) (hi : tb D i = false)
  (hw : zbd o.guard all tm = some w) (hv : if w = true then (zb6 o.op).f C (zmj tm old olds i o) H = some v else v = zbr) :
  zuz C H all olds n old (putA n tm o.dst v) i o w v := by
 obtain ⟨r1, r2⟩ := zmh R hD ho (.inr ⟨rfl, hp⟩) ho hi
 refine ⟨ho, ?_, ?_, ?_⟩
 ·rw [zf3 (tm := tm) fun j w hg g hj d hd => by rw [zb1, if_neg fun e => r2 j w hg g hj d hd e.1]]
  exact hw
 ·cases w with
  | false => exact hv
  | true =>
   rw [if_pos rfl] at hv ⊢
   rw [zqd (tm := tm) fun t ht hto => by rw [zb1, if_neg fun e => r1 t ht hto e.1]]
   exact hv
 ·intro d hd hn
  rw [zb1, if_pos ⟨hd, hn⟩]
theorem zcp.light {i : Nat} {o : Oper} {v : zab} {D' : Nat} (R : zcp μ all olds anc n old tm D S order tmps) (ho : all[i]? = some o) (hi : tb D i = false) (hp : ∀ j, zko o j -> tb D j = true) (hD : ∀ k, tb D' k = (tb D k || k == i)) :
  zcp μ all olds anc n old (putA n tm o.dst v) D' S order tmps := by
 refine ⟨R.reg, R.sched, fun k hk => by rw [hD, R.sub k hk]; rfl, R.closed, ?_, R.size, ?_, R.past, ?_, ?_⟩
 ·intro k u hu hk j hj
  rw [hD] at hk ⊢
  simp only [Bool.or_eq_true, beq_iff_eq] at hk ⊢
  rcases hk with hk | rfl
  ·exact .inl (R.dclosed k u hu hk j hj)
  ·rw [ho] at hu; cases hu
   exact .inl (hp j hj)
 ·intro k u d x hu hud hk hd hx
  rw [zb1, if_neg] at hx
  ·exact R.now k u d x hu hud hk hd hx
  ·rintro ⟨e, _⟩
   have := R.reg.one k i u o d hu ho hud e
   have hk' := R.sub k hk
   rw [this, hi] at hk'; cases hk'
 ·intro d hd hw
  rw [zb1, if_neg]
  ·refine R.keep d hd fun k u hu hud => ?_
   have := hw k u hu hud
   rw [hD] at this; simp only [Bool.or_eq_false_iff] at this; exact this.1
  ·rintro ⟨e, _⟩
   have := hw i o ho e
   rw [hD] at this; simp at this
 ·intro d x hd hx
  refine R.big d x hd ?_
  rw [zb1, if_neg fun e => absurd e.2 (by omega)] at hx
  exact hx
theorem zcp.mono {ν : Mu} (hm : μ.lw ν) (R : zcp μ all olds anc n old tm D S order tmps) : zcp ν all olds anc n old tm D S order tmps :=
 ⟨R.reg, R.sched, R.sub, R.closed, R.dclosed, R.size, fun i o d v a b c e f => (R.now i o d v a b c e f).mono hm _ _, fun d v a b c => (R.past d v a b c).mono hm _ _, R.keep, fun d v a b => (R.big d v a b).mono hm _ _⟩
end
end Go.Am
namespace Go.Am
open Go Go.RowKit
section steps
variable {P : Program} {fr b : Frame} {a : Act} {k : List Item} {cs : List Frame} {w w' : World} {s : Sem Next} {ops : Array Oper}
theorem zz0 {v : Value} (hr : s.run P w = .ok (.value v) w') :
  (stepG.apply P true fr cs none s w).bare = .go { frame := fr.finish v, callers := cs, status := .running, dying := none } w' := by
 simp [stepG.apply, Sem.runT_eq, hr]
theorem z4e (hr : s.run P w = .ok .skip w') :
  (stepG.apply P true fr cs none s w).bare = .go { frame := fr.finish undef, callers := cs, status := .running, dying := none } w' := by
 simp [stepG.apply, Sem.runT_eq, hr]
theorem zlt {i : Nat} {rest : List Nat} {o : Oper} {v : Value} (ho : ops[i]? = some o) (hw : Region.wanted o (yielded ops a.tmps) = true)
  (hr : (o.semAt b.roundOf a.eval).run P w = .ok (.value v) w') :
  step P (lone (b.atR a (.inRegion ops (i :: rest) :: k)) cs w) = .next (lone (b.atR (a.put o.dst v) (.inRegion ops rest :: k)) cs w') := by
 have := Frame.finish_atR b a ops i rest k v
 rw [ho] at this; simp only [Option.bind_some] at this; rw [<- this]; exact step_lone_go (by rw [stepGR_op ho hw]; exact zz0 hr)
theorem ztr {i : Nat} {rest : List Nat} {o : Oper} (ho : ops[i]? = some o) (hw : Region.wanted o (yielded ops a.tmps) = true)
  (hr : (o.semAt b.roundOf a.eval).run P w = .ok .skip w') :
  step P (lone (b.atR a (.inRegion ops (i :: rest) :: k)) cs w) = .next (lone (b.atR (a.put o.dst undef) (.inRegion ops rest :: k)) cs w') := by
 have := Frame.finish_atR b a ops i rest k undef
 rw [ho] at this; simp only [Option.bind_some] at this; rw [<- this]; exact step_lone_go (by rw [stepGR_op ho hw]; exact z4e hr)
theorem zg7 {i : Nat} {rest : List Nat} {o : Oper} (ho : ops[i]? = some o) (hw : Region.wanted o (yielded ops a.tmps) = false) :
  step P (lone (b.atR a (.inRegion ops (i :: rest) :: k)) cs w) = .next (lone (b.atR (a.put o.dst undef) (.inRegion ops rest :: k)) cs w) := by
 have := stepR_op_skip (P := P) (b := b) (a := a) (k := k) (cs := cs) (w := w) (ops := ops) (i := i) (rest := rest) (by rw [ho]; simpa using hw)
 rw [this, ho]; rfl
end steps
mutual
theorem zyi : ∀ (d : Nat) (a b : zab), same d a b = true -> a = b
 | d, a, b, h => by
  cases a <;> cases b <;> cases d <;> simp [same, zon, ze3, zqt, zfi, Nat.beq_eq] at h ⊢
  all_goals first
   | exact h
   | (obtain ⟨h1, h2⟩ := h; exact ⟨h1, h2⟩)
   | exact zty _ _ _ h
   | (obtain ⟨⟨⟨h1, h2⟩, h3⟩, h4⟩ := h; exact ⟨h1, h2, h3, h4⟩)
theorem zty : ∀ (d : Nat) (a b : List zab), same.sames d a b = true -> a = b
 | d, [], [], _ => rfl
 | d, a :: x, b :: y, h => by
  simp only [same.sames, yac] at h; rw [zyi d a b h.1, zty d x y h.2]
 | d, [], b :: y, h => by simp [same.sames] at h
 | d, a :: x, [], h => by simp [same.sames] at h
end
section
variable {P : Program} {C : Ctx} {B N : Nat} {μ : Mu} {H H' : zai} {w : World} {all : Array Oper} {olds : List (Nat × List Nat)} {anc : Tr Nat} {n : Nat} {old tm tm' : Tm} {D D' : Nat} {S : Nat -> Bool} {order : List Nat} {tmps : Array Value} {ds : List Deferred} {dp : Nat}
def zdx (C : Ctx) (μ : Mu) (dp : Nat) (H : zai) (all : Array Oper) (olds : List (Nat × List Nat)) (n : Nat) (old tm : Tm) (D : Nat) (S : Nat -> Bool) : Prop :=
 ∀ i, tb D i = true -> S i = false -> (∃ o w v, zuz C H all olds n old tm i o w v) \/ ∃ o v, zrj C μ dp all olds n old tm i o v
theorem zno : ∀ (l : List Nat) (tm : Tm) (D : Nat), zhg C H all n old olds l tm = some tm' -> zd8 all.toList l D = some D' -> zcp μ all olds anc n old tm D S order tmps -> zdx C μ dp H all olds n old tm D S →
  zcp μ all olds anc n old tm' D' S order tmps /\ zdx C μ dp H all olds n old tm' D' S := by
 intro l; induction l with
 | nil => intro tm D h hD R hp; cases h; cases hD; exact ⟨R, hp⟩
 | cons i l ih =>
  intro tm D h hD R hp; unfold zhg at h; unfold zd8 at hD; rw [zad] at hD; obtain ⟨D1, h1, hD⟩ := hD
  simp only [zad, zbh] at h; obtain ⟨o, ho, wn, hw, v, hv, h⟩ := h
  obtain ⟨o', ho', hi, hb, hD1⟩ := zir h1
  have ho2 : all[i]? = some o := by simpa using ho
  rw [ho2] at ho'; cases ho'
  have hval : if wn = true then (zb6 o.op).f C (zmj tm old olds i o) H = some v else v = zbr := by
   cases wn with
   | true => rw [if_pos rfl]; exact hv
   | false => rw [if_neg (by simp)]; exact (Option.some.inj hv).symm
  refine ih _ _ h hD (R.light ho2 hi hb hD1) fun j hj hSj => ?_
  rw [hD1] at hj; simp only [Bool.or_eq_true, beq_iff_eq] at hj; rcases hj with hj | rfl
  ·rcases hp j hj hSj with ⟨u, wu, vu, pu⟩ | ⟨u, vu, pu⟩
   ·exact .inl ⟨u, wu, vu, pu.keep R.reg R.dclosed hj ho2 hi⟩
   ·exact .inr ⟨u, vu, pu.keep R.reg R.dclosed hj ho2 hi⟩
  ·exact .inl ⟨o, wn, v, zuz.fresh R.reg R.dclosed ho2 hb hi hw hval⟩
structure Weak (all : Array Oper) (n : Nat) (tm : Tm) (i : Nat) (o : Oper) (w : Bool) (v : zab) : Prop where
 op : all[i]? = some o
 want : zbd o.guard all tm = some w
 val : w = false -> v = zbr
 put : ∀ d, o.dst = some d -> d < n -> tm.get d = some v
theorem zzak : ∀ (l : List Nat), zos C H all old olds tm l = true -> ∀ i ∈ l, ∀ o w v, Weak all n tm i o w v -> ∃ v, zuz C H all olds n old tm i o w v := by
 intro l; induction l with
 | nil => intro _ i hi; cases hi
 | cons j l ih =>
  intro h i hi o w v W; unfold zos at h; split at h
  case h_2 => cases h
  rename_i hx; rcases yat.1 hi with rfl | hi
  ·simp only [zad, zbh] at hx
   obtain ⟨o', ho', d, hd, wn, hw, hx⟩ := hx
   have ho2 : all[i]? = some o' := by simpa using ho'
   rw [W.op] at ho2; cases ho2; rw [W.want] at hw; cases hw
   cases w with
   | false => exact ⟨v, W.op, W.want, by rw [if_neg (by simp)]; exact W.val rfl, W.put⟩
   | true =>
    simp only [cond_true, zad] at hx; obtain ⟨v1, hv1, u, hu, hs⟩ := hx
    have e := zyi _ _ _ (Option.some.inj hs)
    refine ⟨v1, W.op, W.want, by rw [if_pos rfl]; exact hv1, fun d' hd' hn => ?_⟩
    rw [hd] at hd'; cases hd'
    rw [hu, e]
  ·exact ih h i hi o w v W
end
end Go.Am
namespace Go.Am
open Go Go.RowKit
section
variable {P : Program} {C : Ctx} {B N : Nat} {μ : Mu} {H H' : zai} {w : World} {all : Array Oper} {olds : List (Nat × List Nat)} {anc : Tr Nat} {n : Nat} {old tm tm' : Tm} {D D' : Nat} {S : Nat -> Bool} {order : List Nat} {tmps : Array Value} {ds : List Deferred} {dp : Nat}
variable {b : Frame} {k : List Item} {cs : List Frame}
structure zux (B N dp : Nat) (μ : Mu) (H : zai) (w : World) (μ' : Mu) (w' : World) : Prop where
 heap : zb0 B N μ' H w'
 le : μ.lw μ'
 pd : ∀ d, d ≠ dp -> μ.ln d μ'
 below : Below N w w'
theorem zux.refl (hH : zb0 B N μ H w) : zux B N dp μ H w μ w := ⟨hH, fun _ _ h => h, fun d _ => μ.ln_refl d, Below.refl _ _⟩
theorem zux.trans {μ1 μ2 : Mu} {w1 w2 : World} (h : zux B N dp μ H w μ1 w1) (k : zux B N dp μ1 H w1 μ2 w2) : zux B N dp μ H w μ2 w2 :=
 ⟨k.heap, fun a i e => k.le a i (h.le a i e), fun d hd => Mu.ln_trans (h.pd d hd) (k.pd d hd), h.below.trans k.below⟩
theorem z07 (hT : zdm P C) (hH : zb0 B N μ H w) {i : Nat} (R : zcp μ all olds anc n old tm D S (i :: order) tmps) (hp : zdx C μ dp H all olds n old tm D S) (hi : tb D i = true) :
  ∃ S' tmps' μ' w', step P (lone (b.atR ⟨tmps, ds⟩ (.inRegion all (i :: order) :: k)) cs w) = .next (lone (b.atR ⟨tmps', ds⟩ (.inRegion all order :: k)) cs w') /\ zux B N dp μ H w μ' w' ∧
   zcp μ' all olds anc n old tm D S' order tmps' /\ zdx C μ' dp H all olds n old tm D S' := by
 obtain ⟨o, ho, hS, hb, _⟩ := R.sched
 have hDD : ∀ k, tb D k = (tb D k || k == i) := by
  intro k; by_cases e : k = i
  ·subst e; rw [hi]; rfl
  ·have : (k == i) = false := by simpa using e
   rw [this, Bool.or_false]
 have ds' : ∀ v', Act.put ⟨tmps, ds⟩ o.dst v' = ⟨(Act.put ⟨tmps, ds⟩ o.dst v').tmps, ds⟩ := by intro v'; unfold Act.put; cases o.dst <;> rfl
 rcases hp i hi hS with ⟨o', wn, v, pd⟩ | ⟨o', v, pd⟩
 ·have := pd.op
  rw [ho] at this; cases this
  have hw := R.wanted ho hb pd.want
  have rest : ∀ v', zaq μ v v' -> zcp μ all olds anc n old tm D (fun k => S k || k == i) order (Act.put ⟨tmps, ds⟩ o.dst v').tmps /\ zdx C μ dp H all olds n old tm D (fun k => S k || k == i) := by
   intro v' hv; refine ⟨R.did ho hDD pd.put (fun _ _ => rfl) hv, fun j hj hSj => hp j hj ?_⟩
   simp only [Bool.or_eq_false_iff] at hSj; exact hSj.1
  cases wn with
  | false =>
   have hv := pd.val
   rw [if_neg (by simp)] at hv
   subst hv; obtain ⟨r1, r2⟩ := rest undef zkr
   refine ⟨_, _, μ, w, ?_, .refl hH, r1, r2⟩
   rw [<- ds']; exact zg7 (a := ⟨tmps, ds⟩) ho hw
  | true =>
   have hv := pd.val
   rw [if_pos rfl] at hv; obtain ⟨v', h1, h2⟩ := zzaj hT hH (R.erel (ds := ds) hH.glob ho hS hb) hv
   obtain ⟨r1, r2⟩ := rest v' h2
   refine ⟨_, _, μ, w, ?_, .refl hH, r1, r2⟩
   rw [<- ds']; refine zlt (a := ⟨tmps, ds⟩) ho hw ?_
   rw [Oper.semAt_eq]
   ·exact h1
   ·intro c e
    rw [e] at hv
    cases hv
 ·have := pd.op
  rw [ho] at this; cases this
  have hw := R.wanted ho hb pd.want
  obtain ⟨H0, l, h1, h2⟩ := pd.val
  obtain ⟨l', vs, v', elem, e1, run, hl, hv⟩ := zzc7 (P := P) (w := w) hT (R.erel (ds := ds) hH.glob ho hS hb) o pd.flo h1
  have e2 : za7 H0 l none = za7 H0 l' none := e1
  have p1 := (hH.pnd _ _ _ h2).1
  have lg : ∀ c, (μ.land H0.next ⟨w.heap.size, true, 0, 0, false⟩) c = if c = H0.next then some ⟨w.heap.size, true, 0, 0, false⟩ else μ c := fun _ => rfl
  have hle : μ.lw (μ.land H0.next ⟨w.heap.size, true, 0, 0, false⟩) := fun c j hj => by
   rw [lg, if_neg fun e => by rw [e, p1] at hj; cases hj]; exact hj
  have hlp : ∀ c x d j, (d ≠ dp \/ j ≠ i) -> μ.pd c = some (x, d, j) -> (μ.land H0.next ⟨w.heap.size, true, 0, 0, false⟩).pd c = some (x, d, j) := by
   intro c x d j hne hc; show (if c = H0.next then none else μ.pd c) = _
   rw [if_neg]
   ·exact hc
   ·intro e
    rw [e, h2] at hc
    cases hc; rcases hne with h | h <;> exact h rfl
  have hblk : (zal.cells (Tr.ofList l) (zbw l) none) = .cells (Tr.ofList l') (zbw l') none := by
   have h3 : (za7 H0 l none).t.get H0.next = (za7 H0 l' none).t.get H0.next := by rw [e2]
   have hg : ∀ m, (za7 H0 m none).t.get H0.next = some (.cells (Tr.ofList m) (zbw m) none) := fun m => by
    show (H0.t.set H0.next _).get H0.next = _
    rw [Tr.get_set, if_pos rfl]
   rw [hg, hg] at h3; exact Option.some.inj h3
  have hH' : zb0 B N (μ.land H0.next ⟨w.heap.size, true, 0, 0, false⟩) H (w.alloc (.cells vs elem)) := by
   refine hH.late h2 rfl rfl ?_
   rw [hblk]; have := (zby.mono hle _ _ hl).rel_one (i := ⟨w.heap.size, true, 0, 0, false⟩) rfl (elem := elem)
   rwa [Array.toArray_toList] at this
  have hvr := hv (μ.land H0.next ⟨w.heap.size, true, 0, 0, false⟩) ⟨w.heap.size, true, 0, 0, false⟩ (by rw [lg, if_pos rfl]) rfl rfl
  refine ⟨fun k => S k || k == i, (Act.put ⟨tmps, ds⟩ o.dst v').tmps, μ.land H0.next ⟨w.heap.size, true, 0, 0, false⟩, w.alloc (.cells vs elem), ?_, ⟨hH', hle, fun d hd => ⟨hle, fun c x j hc => hlp c x d j (.inl hd) hc⟩, zcc hH.size _⟩,
   (R.mono hle).did ho hDD pd.put (fun _ _ => rfl) hvr, fun j hj hSj => ?_⟩
  ·rw [<- ds']
   refine zlt (a := ⟨tmps, ds⟩) ho hw ?_
   rw [Oper.semAt_eq]
   ·exact run
   ·intro c e
    have := pd.flo
    rw [e] at this
    cases this
  ·simp only [Bool.or_eq_false_iff, beq_eq_false_iff_ne] at hSj
   rcases hp j hj hSj.1 with h | ⟨u, vu, pu⟩
   ·exact .inl h
   ·refine .inr ⟨u, vu, pu.op, pu.flo, pu.want, ?_, pu.put⟩
    obtain ⟨H1, m, g1, g2⟩ := pu.val
    exact ⟨H1, m, g1, hlp _ _ _ _ (.inr hSj.2) g2⟩
theorem reach (hT : zdm P C) {st : zd4} {r : List zd4} (hst : zcj all.toList anc (st :: r) D = true) (hlt : st.heavy <= all.size) : ∀ (order : List Nat) (S : Nat -> Bool) (tmps : Array Value) (μ : Mu) (w : World), zb0 B N μ H w →
  zcp μ all olds anc n old tm D S order tmps -> zdx C μ dp H all olds n old tm D S →
  ∃ S' order' tmps' μ' w', Steps P (lone (b.atR ⟨tmps, ds⟩ (.inRegion all order :: k)) cs w) (lone (b.atR ⟨tmps', ds⟩ (.inRegion all (st.heavy :: order') :: k)) cs w') /\ zux B N dp μ H w μ' w' ∧
   zcp μ' all olds anc n old tm D S' (st.heavy :: order') tmps' /\ zdx C μ' dp H all olds n old tm D S' := by
 obtain ⟨only, _, D1, D2, h1, _⟩ := zgt hst hlt
 obtain ⟨oh, hoh, hh, hbh, _⟩ := zir h1
 intro order; induction order with
 | nil =>
  intro S tmps μ w _ R hp; have := R.sub _ (R.sched st.heavy (yaf.1 hoh).1)
  rw [hh] at this; cases this
 | cons i order ih =>
  intro S tmps μ w hH R hp
  cases hi : tb D i with
  | true =>
   obtain ⟨S', tmps', μ1, w1, s1, g1, r1, p1⟩ := z07 (b := b) (k := k) (cs := cs) (ds := ds) hT hH R hp hi
   obtain ⟨S2, order', tmps2, μ2, w2, s2, g2, r2⟩ := ih S' tmps' μ1 w1 g1.heap r1 p1
   exact ⟨S2, order', tmps2, μ2, w2, .head s1 s2, g1.trans g2, r2⟩
  | false =>
   obtain ⟨o, ho, hS, hb, _⟩ := R.sched
   have := only i o ho hi fun j hj => R.sub j (hb j hj)
   subst this; exact ⟨S, order, tmps, μ, w, .refl _ _, .refl hH, R, hp⟩
theorem regEnd (hT : zdm P C) (hst : zcj all.toList anc [] D = true) : ∀ (order : List Nat) (S : Nat -> Bool) (tmps : Array Value) (μ : Mu) (w : World), zb0 B N μ H w →
  zcp μ all olds anc n old tm D S order tmps -> zdx C μ dp H all olds n old tm D S →
  ∃ tmps' μ' w', Steps P (lone (b.atR ⟨tmps, ds⟩ (.inRegion all order :: k)) cs w) (lone (b.atR ⟨tmps', ds⟩ k) cs w') /\ zux B N dp μ H w μ' w' /\ zcm μ' n tm tmps' := by
 have full := zv0 hst
 intro order; induction order with
 | nil =>
  intro S tmps μ w hH R hp; refine ⟨tmps, μ, w, .one stepR_region_end, .refl hH, R.size, fun t v hv => ?_⟩
  by_cases hn : t < n
  ·by_cases hw : ∃ (j : Nat) (u : Oper), all[j]? = some u /\ u.dst = some t
   ·obtain ⟨j, u, hu, hud⟩ := hw
    exact R.now j u t v hu hud (R.sched j (yaf.1 hu).1) hn hv
   ·have k := R.keep t hn fun i o h1 h2 => absurd ⟨i, o, h1, h2⟩ hw
    exact R.past t v hn (fun i o h1 h2 => absurd ⟨i, o, h1, h2⟩ hw) (by rw [<- k]; exact hv)
  ·rw [zk0 (by rw [R.size]; omega)]
   exact R.big t v (by omega) (.inl hv)
 | cons i order ih =>
  intro S tmps μ w hH R hp; obtain ⟨o, ho, _⟩ := R.sched
  obtain ⟨S', tmps', μ1, w1, s1, g1, r1, p1⟩ := z07 (b := b) (k := k) (cs := cs) (ds := ds) hT hH R hp (full i (yaf.1 ho).1)
  obtain ⟨tmps2, μ2, w2, s2, g2, r2⟩ := ih S' tmps' μ1 w1 g1.heap r1 p1
  exact ⟨tmps2, μ2, w2, .head s1 s2, g1.trans g2, r2⟩
theorem zzbz (hM : P.follows .mixedOrders = true) {anc : Tr Nat} (hR : zrg all olds anc) (ht : zcm μ n old tmps) (t : Nat) :
  zcp μ all olds anc n old old 0 (fun _ => false) (Region.schedule (P.follows .mixedOrders) all t) tmps /\ zdx C μ dp H all olds n old old 0 (fun _ => false) := by
 refine ⟨⟨hR, ?_, fun i h => (by cases h), fun i o _ h => (by cases h), fun i o _ h => (by rw [ztq] at h; cases h), ht.1, fun i o d v _ _ h => (by cases h), fun d v _ _ h => ht.2 d v h, fun _ _ _ => rfl, fun d v hd h => ?_⟩, fun i h => (by rw [ztq] at h; cases h)⟩
 ·rw [hM]
  unfold Region.schedule; simp only [Bool.true_or, if_true]; have := zzbu hR.back all.size t (Array.replicate all.size false) (by simp) (by
   refine Nat.le_trans (List.countP_le_length) ?_
   simp)
  have e : (fun i => (Array.replicate all.size false).getD i false) = fun _ => false := by
   funext i
   simp only [Array.getD_eq_getD_getElem?, Array.getElem?_replicate]; split <;> rfl
  rw [e] at this; exact this
 ·have h' : old.get d = some v := h.elim id id
  have := ht.2 d v h'
  rw [zk0 (by rw [ht.1]; exact hd)] at this
  exact this
def zif (C : Ctx) (μ : Mu) (dp : Nat) (all : Array Oper) (olds : List (Nat × List Nat)) (n : Nat) (old tm : Tm) (D : Nat) (S : Nat -> Bool) (again : List Nat) : Prop :=
 ∀ i, tb D i = true -> S i = false -> (∃ o w v, (∀ H, zuz C H all olds n old tm i o w v) \/ (i ∈ again /\ Weak all n tm i o w v)) \/ ∃ o v, zrj C μ dp all olds n old tm i o v
theorem zuz.float {i : Nat} {o : Oper} {w : Bool} {v : zab} (h : zuz C H all olds n old tm i o w v) (hf : zgg o.op = true) (H' : zai) : zuz C H' all olds n old tm i o w v := by
 refine ⟨h.op, h.want, ?_, h.put⟩
 have := h.val
 cases w with
 | false => exact this
 | true =>
  rw [if_pos rfl] at this; exfalso
  obtain ⟨dst, op, type, pos, after, guard⟩ := o
  cases op <;> first | (simp [zgg] at hf; done) | cases this
theorem z4v {again : List Nat} (hw : zif C μ dp all olds n old tm D S again) (ha : zos C H all old olds tm again = true) : zdx C μ dp H all olds n old tm D S := by
 intro i hi hS; rcases hw i hi hS with ⟨o, w, v, h | ⟨h1, h2⟩⟩ | h
 ·exact .inl ⟨o, w, v, h H⟩
 ·obtain ⟨v, h⟩ := zzak (C := C) (H := H) (olds := olds) (old := old) again ha i h1 o w v h2
  exact .inl ⟨o, w, v, h⟩
 ·exact .inr h
end
end Go.Am
namespace Go.Am
open Go Go.RowKit
section
variable {P : Program} {C : Ctx} {B N : Nat} {μ : Mu} {H H' : zai} {w : World} {all : Array Oper} {olds : List (Nat × List Nat)} {anc : Tr Nat} {n : Nat} {old tm tm' : Tm} {D D' : Nat} {S : Nat -> Bool} {order : List Nat} {tmps : Array Value} {ds : List Deferred} {dp : Nat}
theorem Weak.keep (R : zrg all olds anc) (hD : zlq all (tb D)) {i k : Nat} {o u : Oper} {w : Bool} {v x : zab} (h : Weak all n tm i o w v) (hi : tb D i = true) (hu : all[k]? = some u) (hk : tb D k = false) :
  Weak all n (putA n tm u.dst x) i o w v := by
 obtain ⟨_, r2⟩ := zmh R hD h.op (.inl hi) hu hk
 refine ⟨h.op, ?_, h.val, ?_⟩
 ·rw [zf3 (tm := tm) fun j w hg g hj d hd => by rw [zb1, if_neg fun e => r2 j w hg g hj d hd e.1]]
  exact h.want
 ·intro d hd hn
  rw [zb1, if_neg]
  ·exact h.put d hd hn
  ·rintro ⟨e, _⟩
   have := R.one i k o u d h.op hu hd e
   rw [this, hk] at hi; cases hi
theorem toWeak {st : zd4} {r : List zd4} (hst : zcj all.toList anc (st :: r) D = true) (hlt : st.heavy <= all.size) (R : zcp μ all olds anc n old tm D S (st.heavy :: order) tmps) (hp : zdx C μ dp H all olds n old tm D S) :
  zif C μ dp all olds n old tm D S st.again := by
 obtain ⟨_, ag, _⟩ := zgt hst hlt
 intro i hDi hSi; rcases hp i hDi hSi with ⟨u, wu, vu, pu⟩ | h
 rotate_left
 ·exact .inr h
 refine .inl ⟨u, wu, vu, ?_⟩
 rcases ag i u pu.op hDi with h | h | h | h
 ·obtain ⟨o, ho, _, hb, _⟩ := R.sched
  have := R.reg.up R.closed ho hb h
  rw [hSi] at this; cases this
 ·exact .inl fun H => pu.pure h H
 ·exact .inl fun H => pu.float h H
 ·exact .inr ⟨h, pu.op, pu.want, fun e => by have := pu.val; rw [e] at this; simpa using this, pu.put⟩
theorem zza2 {h : Nat} {again : List Nat} {D1 : Nat} {o : Oper} {v : zab} {v' : Value} (h1 : zid all.toList h D = some D1) (ho : all[h]? = some o)
  (R : zcp μ all olds anc n old tm D S (h :: order) tmps) (hp : zif C μ dp all olds n old tm D S again) (hv : zaq μ v v') :
  zcp μ all olds anc n old (putA n tm o.dst v) D1 (fun k => S k || k == h) order (Act.put ⟨tmps, ds⟩ o.dst v').tmps /\ zif C μ dp all olds n old (putA n tm o.dst v) D1 (fun k => S k || k == h) again := by
 obtain ⟨o', ho', hi, hb, hD1⟩ := zir h1
 rw [ho] at ho'; cases ho'
 refine ⟨R.did ho hD1 (fun d hd hn => by rw [zb1, if_pos ⟨hd, hn⟩]) (fun d hd => by rw [zb1, if_neg fun e => absurd (hd e.1) (by omega)]) hv, fun i hDi hSi => ?_⟩
 simp only [Bool.or_eq_false_iff, beq_eq_false_iff_ne] at hSi; rw [hD1] at hDi; simp only [Bool.or_eq_true, beq_iff_eq] at hDi; have hDi := hDi.resolve_right hSi.2
 rcases hp i hDi hSi.1 with ⟨u, wu, vu, pu⟩ | ⟨u, vu, pu⟩
 ·exact .inl ⟨u, wu, vu, pu.imp (fun pu H => (pu H).keep R.reg R.dclosed hDi ho hi) (fun pu => ⟨pu.1, pu.2.keep R.reg R.dclosed hDi ho hi⟩)⟩
 ·exact .inr ⟨u, vu, pu.keep R.reg R.dclosed hDi ho hi⟩
inductive zdy (C : Ctx) (μ : Mu) (dp : Nat) (n : Nat) : Option zai -> List zce -> Tm -> List Item -> Array Value -> Prop
 | plain {cur : Option zai} {todo : List zce} {tm : Tm} {btodo : List Item} {tmps : Array Value} : zec (zbo μ) todo btodo -> zcm μ n tm tmps -> zdy C μ dp n cur todo tm btodo tmps
 | reg {H : zai} {all : Array Oper} {old tm : Tm} {olds : List (Nat × List Nat)} {stages : List zd4} {k : List zce} {order : List Nat} {k' : List Item} {tmps : Array Value} {anc : Tr Nat} {D : Nat} {S : Nat -> Bool} :
   zcp μ all olds anc n old tm D S order tmps -> zcj all.toList anc stages D = true -> zdx C μ dp H all olds n old tm D S -> zec (zbo μ) k k' →
   zdy C μ dp n (some H) (.reg all old olds stages :: k) tm (.inRegion all order :: k') tmps
 | mid {cur : Option zai} {all : Array Oper} {old tm : Tm} {olds : List (Nat × List Nat)} {lights again : List Nat} {stages : List zd4} {k : List zce} {order : List Nat} {k' : List Item} {tmps : Array Value} {anc : Tr Nat} {D D2 : Nat} {S : Nat -> Bool} :
   zcp μ all olds anc n old tm D S order tmps -> zd8 all.toList lights D = some D2 -> zcj all.toList anc stages D2 = true -> zif C μ dp all olds n old tm D S again -> zec (zbo μ) k k' →
   zdy C μ dp n cur (.reg all old olds (⟨all.size, lights, again⟩ :: stages) :: k) tm (.inRegion all order :: k') tmps
 | wait {all : Array Oper} {old tm : Tm} {olds : List (Nat × List Nat)} {st : zd4} {stages : List zd4} {k : List zce} {order : List Nat} {k' : List Item} {tmps : Array Value} {anc : Tr Nat} {D : Nat} {S : Nat -> Bool} :
   zcp μ all olds anc n old tm D S (st.heavy :: order) tmps -> zcj all.toList anc (st :: stages) D = true -> st.heavy <= all.size -> zif C μ dp all olds n old tm D S st.again -> zec (zbo μ) k k' →
   zdy C μ dp n none (.reg all old olds (st :: stages) :: k) tm (.inRegion all (st.heavy :: order) :: k') tmps
theorem zdx.mono {ν : Mu} (h : μ.ln dp ν) (p : zdx C μ dp H all olds n old tm D S) : zdx C ν dp H all olds n old tm D S :=
 fun i h1 h2 => (p i h1 h2).imp id fun ⟨o, v, q⟩ => ⟨o, v, q.mono h⟩
theorem zif.mono {ν : Mu} {again : List Nat} (h : μ.ln dp ν) (p : zif C μ dp all olds n old tm D S again) : zif C ν dp all olds n old tm D S again :=
 fun i h1 h2 => (p i h1 h2).imp id fun ⟨o, v, q⟩ => ⟨o, v, q.mono h⟩
theorem zdy.mono {ν : Mu} (h : μ.ln dp ν) {cur : Option zai} {todo : List zce} {btodo : List Item} (R : zdy C μ dp n cur todo tm btodo tmps) : zdy C ν dp n cur todo tm btodo tmps := by
 have mk : ∀ {k : List zce} {k' : List Item}, zec (zbo μ) k k' -> zec (zbo ν) k k' := fun k => zec.mono (fun _ _ r => zbo.mono h r) k
 cases R with
 | plain a b => exact .plain (mk a) (b.mono h)
 | reg a b c d => exact .reg (a.mono h) b (c.mono h) (mk d)
 | mid a b c d e => exact .mid (a.mono h) b c (d.mono h) (mk e)
 | wait a b b' c d => exact .wait (a.mono h) b b' (c.mono h) (mk d)
end
end Go.Am
