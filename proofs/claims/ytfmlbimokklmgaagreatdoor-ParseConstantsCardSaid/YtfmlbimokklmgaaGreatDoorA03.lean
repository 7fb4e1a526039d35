/- append: in the room, into new memory, and both ways where the room is not known. -/
import Derived.AtR
import Derived.Orders
import Derived.Test.YtfmlbimokklmgaaGreatDoorA02
set_option linter.all false
noncomputable section
namespace Go.Am
open Go Go.RowKit
section
variable {P : Program} {C : Ctx} {B N : Nat} {μ : Mu} {H H' : zaf} {w : World}
variable {e : Env} {ρ : Operand -> Value} {dst : Option Tmp} {type : TypeId} {pos : String} {after : Array Edge} {guard : Option (Nat × Bool)} {v : zab}
theorem zbp.drop (hH : zbp B N μ H w) (b : Nat) (hb : ∀ x t, μ.pd b ≠ some (x, t)) : zbp B N μ ⟨H.next, H.t.del b⟩ w := by
 have hget : ∀ a, (H.t.del b).get a = if a = b then none else H.t.get a := fun a => Tr.get_del _ _ _
 have key : ∀ a x, (H.t.del b).get a = some x -> a ≠ b /\ H.t.get a = some x := by
  simp_all
 refine ⟨hH.base, hH.glob, fun a x i ha hx => hH.low a x i ha (key a x hx).2, hH.next, hH.size, fun a ha => ⟨(hH.fresh a ha).1, ?_⟩, fun a x i hx => hH.blk a x i (key a x hx).2, hH.own, fun a c x y i j hx hy => hH.inj a c x y i j (key a x hx).2 (key c y hy).2, fun a x t ha => ?_⟩
 rotate_left
 ·obtain ⟨h1, h2, h3⟩ := hH.pnd a x t ha
  grind
 rw [hget]; split
 ·rfl
 ·exact (hH.fresh a ha).2
theorem zbp.adopt (hH : zbp B N μ H w) {y : zav} {o' : Obj} {i : BI} (hN : N <= i.b /\ i.b < w.heap.size /\ i.ro = false) (hfree : ∀ a x j, B <= a -> H.t.get a = some x -> μ a = some j -> j.b ≠ i.b) (hy : zou (μ.ext H.next i) i y o') :
  zbp B N (μ.ext H.next i) (Am.newBlk H y) (World.setBlk w i.b o') := by
 have hle : μ.le (μ.ext H.next i) := hH.ext_le
 have hget : ∀ a, (Am.newBlk H y).t.get a = if a = H.next then some y else H.t.get a := fun a => Tr.get_set _ _ _ _
 have hsz : (World.setBlk w i.b o').heap.size = w.heap.size := by simp [World.setBlk]
 refine ⟨hH.base, ?_, ?_, ?_, ?_, ?_, ?_, ?_, ?_, fun a x t ha => ?_⟩
 ·intro g hg; rw [Mu.ext_get, yaa (by have := hH.next; have := hH.base; omega)]; exact hH.glob g hg
 ·intro a x j ha hx hj
  rw [hget, yaa (by have := hH.next; omega)] at hx
  rw [Mu.ext_get, yaa (by have := hH.next; omega)] at hj
  exact hH.low a x j ha hx hj
 ·have := hH.next; show B <= H.next + 1; omega
 ·omega
 ·intro a ha
  have ha' : H.next + 1 <= a := ha
  rw [hget, yaa (by omega)]
  rw [Mu.ext_get, yaa (by omega)]
  exact hH.fresh a (by omega)
 ·intro a x j hx h1
  rw [hget] at hx; rw [Mu.ext_get] at h1; split at hx
  ·grind [zgg]
  ·rename_i hne
   rw [yaa hne] at h1; obtain ⟨q, h2, h3⟩ := hH.blk a x j hx h1
   refine ⟨q, ?_, h3.mono hle⟩
   rw [zgg, yaa]
   ·exact h2
   ·rintro ⟨e, _⟩
    by_cases hb : B <= a
    ·grind
    ·have h5 := (hH.low a x j (by omega) hx h1).1
     omega
 ·intro a j ha hj
  rw [Mu.ext_get] at hj; rw [hsz]; split at hj
  ·simp_all
  ·exact hH.own a j ha hj
 ·intro a b x z j k hx hz hj hk ha hb hjk
  rw [hget] at hx hz; rw [Mu.ext_get] at hj hk; by_cases ea : a = H.next
  ·grind
  ·by_cases eb : b = H.next
   ·grind
   ·rw [yaa ea] at hx hj; rw [yaa eb] at hz hk
    exact hH.inj a b x z j k hx hz hj hk ha hb hjk
 ·obtain ⟨h1, h2, h3⟩ := hH.pnd a x t ha
  have hne : a ≠ H.next := fun e => by rw [e, (hH.fresh _ (ybk _)).2] at h2; cases h2
  grind [Mu.ext_get]
theorem zzb7 {a : zab} {x : Value} (hx : zaq μ a x) {n : Nat} (h : zu2 a = some n) : (Builtin.lenOf x).run P w = .ok n w := by
 unfold zu2 at h; split at h
 ·rename_i s hs
  cases h; rw [zd4] at hs; subst hs; rw [zaq] at hx; rcases hx with ⟨i, c, _, rfl, _⟩ | ⟨_, k, _, A, _, rfl, _⟩
  ·rfl
  ·rw [k]; rfl
 ·split at h
  ·rename_i s hs
   rw [zd1] at hs; subst hs; rw [zaq] at hx; obtain ⟨str, rfl, rfl⟩ := hx
   rw [za1, ze4] at h
   cases h; rfl
  ·rw [zae, zds, zk3.2.1] at h
   obtain ⟨rfl, h⟩ := h
   cases h; rw [zaq] at hx; subst hx; rfl
theorem z0f (hH : zbp B N μ H w) {a : zab} {x : Value} (hx : zaq μ a x) {size n : Nat} {l : List zab} (hn : zu2 a = some n) (h : zmo H size n a = some l) :
  ∃ vs : List Value, (Builtin.firstCells size n x).run P w = .ok vs.toArray w /\ zbw μ l vs := by
 unfold zmo at h; split at h
 ·rename_i s hs
  rw [zd4] at hs; subst hs; simp only [zac] at h; obtain ⟨c, hc, h⟩ := h
  rw [zaq] at hx; rcases hx with ⟨i, c', hi, rfl, _⟩ | ⟨_, k, _, A, _, rfl, _⟩
  rotate_left
  ·have hn0 : n = 0 := by
    have hn : some s.2.2.1 = some n := hn
    simp_all
   subst hn0; rw [Nat.zero_mul] at h
   cases h; exact ⟨[], by show (loadCells A (0 * size)).run P w = _; rw [Nat.zero_mul]; rfl, .nil⟩
  obtain ⟨vs, _, h2, h3, _⟩ := hH.manyAt (P := P) hc hi h
  exact ⟨vs, h3, h2⟩
 ·split at h
  ·rename_i s hs
   rw [zd1] at hs; subst hs
   cases h; rw [zaq] at hx; obtain ⟨str, rfl, rfl⟩ := hx
   refine ⟨((str.extract 0 n).data.map fun b => Value.int .u8 b.toNat).toList, by rw [Array.toArray_toList]; rfl, ?_⟩
   grind [zfz, zmq, zp7]
  ·rw [zae, zds, zk3.2.1] at h
   obtain ⟨rfl, h⟩ := h
   cases h; rw [zaq] at hx; subst hx; exact ⟨[], rfl, .nil⟩
theorem zzc6 (newLen : Nat) : ∀ (r c : Nat), c < newLen -> Builtin.growBy newLen r c <= newLen + (newLen + 768) / 4 := by
 intro r; induction r with
 | zero => grind [Builtin.growBy]
 | succ r ih =>
  intro c h; rw [Builtin.growBy, yaa (by omega)]
  by_cases h2 : c + (c + 768) / 4 < newLen
  ·grind
  ·cases r with
   | zero => rw [Builtin.growBy]; omega
   | succ r => grind [Builtin.growBy]
theorem z60 (need cap : Nat) (h : cap < need) : Builtin.nextslicecap need cap <= 2 * need + 192 := by
 grind [Builtin.nextslicecap, zzc6]
structure z05 (et : ATy) (len cap n : Nat) (new : List zab) : Prop where
 small : len + n + cap < 1000000000
 bytes : (len + n + cap) * et.bytes < 1000000000
 b : et.bytes < 1000000000
 size : et.size ≠ 0
 new : new.length = n * et.size
 zero : et.zero.length = et.size
theorem zm7 {et : ATy} {len cap n : Nat} {new : List zab} (h : zn7 et len cap n new = true) : z05 et len cap n new := by
 unfold zn7 at h; simp only [ybb, zdk, ycp, beqf, zds, za1] at h; obtain ⟨⟨⟨⟨⟨h1, h2⟩, h3⟩, h4⟩, h5⟩, h6⟩ := h
 exact ⟨h1, h2, h3, h4, h5, h6⟩
theorem zmd (z : Array Value) (n : Nat) : (Builtin.zeroCells z n).size = n * z.size := by simp [Builtin.zeroCells]
theorem zgp {st ut el : Nat} {u : TypeDesc} {et : ATy} (hst : P.underlying st = some (.slice el)) (hut : P.underlying ut = some u) (hu : ∀ k, u ≠ .int k) (hF : zdq P el et) {base : Option Addr} {len cap n : Nat} {x : Value} {tys : Array TypeId} {args : Array Value}
  (ht0 : tys[0]? = some st) (ht1 : tys[1]? = some ut) (ha0 : args[0]? = some (.slice base len cap)) (ha1 : args[1]? = some x) (hn : (Builtin.lenOf x).run P w = .ok n w) (hlt : ¬ len + n <= cap)
  (hs : len + n < 1000000000) (hb : (len + n) * et.bytes < 1000000000) (hbb : et.bytes < 1000000000) {old new : Array Value} {z : Value} (hold : (Builtin.firstCells et.size len (.slice base len cap)).run P w.drew = .ok old w.drew) (hnew : (Builtin.firstCells et.size n x).run P w.drew = .ok new w.drew)
  (hz : ∀ w, (zeroValue el).run P w = .ok z w) :
  ∃ newCap, len + n <= newCap /\ (Builtin.append_ tys type args).run P w = .ok (.slice (some ⟨w.heap.size, 0, none⟩) (len + n) newCap) (w.drew.alloc (.cells (old ++ new ++ Builtin.zeroCells z.cells (newCap - (len + n))) el)) := by
 obtain ⟨inf, hinf, hsz, hby, _⟩ := hF.info
 obtain ⟨newCap, hcap, hc⟩ := znk (P := P) (w := w) (len + n) cap el
 refine ⟨newCap, hcap, ?_⟩
 have h1 : ¬ (((len + n : Nat) : Int) > IntKind.i64.max /\ (False \/ et.bytes = 0)) := by
  have : IntKind.i64.max = 9223372036854775807 := by decide
  omega
 have h2 : ¬ Builtin.nextslicecap (len + n) cap * et.bytes > 2 ^ 48 := by
  have h3 := z60 (len + n) cap (by omega)
  have h4 : Builtin.nextslicecap (len + n) cap * et.bytes <= (2 * (len + n) + 192) * et.bytes := ybi _ h3
  grind
 unfold Builtin.append_; simp only [ht0, ht1, ha0, ha1, yad, zbd hst, zbd hut, yac, hF.size, yae]
 cases u <;> first
  | exact absurd rfl (hu _)
  | simp only [ybq, if_false, ycl, if_true, hn, yaa hlt, yac, zj7 hinf, hby, yad, Sem.run_ite, yae, yaa h1, yaa h2, hc, run_askRoom, hold, hnew, hz, ze2, World.size_drew]
theorem zfv {st ut el : Nat} {u : TypeDesc} {et : ATy} (hst : P.underlying st = some (.slice el)) (hut : P.underlying ut = some u) (hu : ∀ k, u ≠ .int k) (hF : zdq P el et) {base : Option Addr} {len cap n : Nat} {x : Value} {tys : Array TypeId} {args : Array Value}
  (ht0 : tys[0]? = some st) (ht1 : tys[1]? = some ut) (ha0 : args[0]? = some (.slice base len cap)) (ha1 : args[1]? = some x) (hn : (Builtin.lenOf x).run P w = .ok n w) (hlt : len + n <= cap)
  {new : Array Value} {w' : World} (hnew : (Builtin.firstCells et.size n x).run P w = .ok new w) (hst' : (match base with | some a => storeCells (a.add (len * et.size)) new.toList | none => pure () : Sem Unit).run P w = .ok () w') :
  (Builtin.append_ tys type args).run P w = .ok (.slice base (len + n) cap) w' := by
 unfold Builtin.append_; simp only [ht0, ht1, ha0, ha1, yad, zbd hst, zbd hut, yac, hF.size, yae]; grind [Result.andThen_ok, Sem.run_bind, Sem.run_pure]
@[simp] theorem Lo.es_sz (n : Nat) : (Lo.sz n).es = n := rfl
@[simp] theorem Lo.es_ty (n : Nat) : (Lo.ty n).es = 1 := rfl
theorem zpl (e : Nat) (et : ATy) : (zhb e et).es = et.size := by
 unfold zhb; rw [zay]; split
 all_goals simp_all
theorem zzec {e t : Nat} {et : ATy} (h : zhb e et = .ty t) : e = t := by
 grind [zhb]
theorem zzb1 {a b : Lo} : loEq a b = true ↔ a = b := by
 cases a <;> cases b <;> simp [loEq, zds]
theorem zbp.newGrown (hH : zbp B N μ H w) {et : ATy} {len cap n newCap : Nat} {new old : List zab} {vo vn : List Value} {z : Array Value} (hg : z05 et len cap n new) (hz : zbw μ et.zero z.toList) (hcap : len + n <= newCap) (ho : zbw μ old vo) (hol : old.length = len * et.size) (hn : zbw μ new vn) (el : TypeId) :
  zbp B N (μ.ext H.next ⟨w.heap.size, false, et.size, newCap * et.size, false⟩) (za7 H (old ++ new) (some (zhb el et))) (w.alloc (.cells (vo.toArray ++ vn.toArray ++ Builtin.zeroCells z (newCap - (len + n))) el)) := by
 have hzs := hz.length
 simp only [ycz] at hzs; have h1 := ho.length
 have h2 := hn.length
 have hsz : (vo.toArray ++ vn.toArray ++ Builtin.zeroCells z (newCap - (len + n))).size = newCap * et.size := by
  simp only [Array.size_append, List.size_toArray, zmd, h1, h2, hol, hg.new, hzs, hg.zero]; rw [<- ybo, <- ybo]; simp_all
 have := hH.newLoose (l := old ++ new) (cs := vo.toArray ++ vn.toArray ++ Builtin.zeroCells z (newCap - (len + n))) (lo := zhb el et) ?_ ?_ el (0, 0) (.inl (ybk _)) fun t => zzec
 ·grind [zpl]
 ·rw [hsz, ybg, hol, hg.new, <- ybo]; exact ybi _ hcap
 ·intro j a ha
  obtain ⟨v, hv, hr⟩ := (ho.append hn).get ha
  grind
theorem zzl9 (hbase : B <= C.base) (hH : zbp B N μ H w) {et : ATy} {n : Nat} {new : List zab} {s : Nat × Nat × Nat × Nat} (h : zhj C H et n new s = some (v, H')) {i : BI} (hi : μ s.1 = some i) {vs : List Value} (hl : zbw μ new vs) :
  v = .slice s.1 s.2.1 (s.2.2.1 + n) s.2.2.2 /\ ∃ w', (storeCells (Addr.add ⟨i.b, s.2.1, none⟩ (s.2.2.1 * et.size)) vs.toArray.toList).run P w = .ok () w' /\ zbp B N μ H' w' /\ Below N w w' := by
 unfold zhj at h; split at h
 ·cases h
  rw [zbw] at hl; subst hl; exact ⟨rfl, w, rfl, hH, Below.refl _ _⟩
 ·rw [zac] at h
  obtain ⟨H1, h1, h⟩ := h
  cases h; obtain ⟨w', h2, h3, h4⟩ := zyw (P := P) hbase hH h1 hi hl
  grind [zms]
theorem zzfy {b : Nat} {p : Tr zab × Nat × Option Lo} (hH : zbp B N μ H w) (h : zax H b = some p) {i : BI} (hi : μ b = some i) (hl : p.2.2 = none) : i.tight = true := by
 obtain ⟨o, h2, h3⟩ := hH.blk _ _ _ (zdo h) hi
 obtain ⟨cs, elem, fr, _, _, _, _, h4⟩ := h3
 simp_all
theorem zzu {b : Nat} {cs : Array Value} {elem : TypeId} {fr : Nat × Nat} (h : w.heap[b]? = some (.cells cs elem fr)) {n : Nat} (hn : n <= cs.size) : (loadCells ⟨b, 0, none⟩ n).run P w = .ok (cs.toList.take n).toArray w := by
 have := run_loadCells_list (P := P) w ⟨b, 0, none⟩ (cs.toList.take n) fun j v hv => by
  grind [zms, World.cell?]
 rwa [yda, ycz, Nat.min_eq_left hn] at this
theorem zr1 {μ' : Mu} {i j : BI} {c : Tr zab} {m L : Nat} {es : Lo} {cs cs2 : Array Value} {elem el : TypeId} {fr fr2 : Nat × Nat} (hle : μ.lw μ') (h : zou μ i (.cells c m (some es)) (.cells cs elem fr)) {new : List zab} {vn : List Value} (hn : zbw μ new vn)
  {tot : Nat} (hm : m <= tot) (htot : L + new.length = tot) (hsz : tot <= cs2.size) (hfr : fr2.2 <= fr2.1 \/ cs2.size <= fr2.1) (hold : ∀ k, k < L -> cs2[k]? = cs[k]?) (hnew : ∀ k, k < new.length -> cs2[L + k]? = vn[k]?)
  (hj : j.tight = false /\ j.es = es.es /\ j.room = cs2.size) (hmod : ∀ t, es = .ty t -> el = t) : zou μ' j (.cells (c.setMany new L) tot (some es)) (.cells cs2 el fr2) := by
 obtain ⟨cs0, elem0, fr0, e, h2, h3, h4, h5⟩ := h
 cases e
 refine ⟨cs2, el, fr2, rfl, hsz, .inr hfr, fun k v hv => ?_, hj.1, hj.2.1, hj.2.2, hmod⟩
 rw [Tr.get_setMany] at hv; split at hv
 ·rename_i hk
  obtain ⟨u, hu, hr⟩ := hn.get hv
  refine ⟨by omega, u, ?_, hr.mono hle _ _⟩
  grind
 ·rename_i hk
  obtain ⟨a, u, hu, hr⟩ := h4 k v hv
  refine ⟨by omega, u, ?_, hr.mono hle _ _⟩
  grind
theorem z7a (hT : zdh P C) (hbase : B <= C.base) (hH : zbp B N μ H w) (hE : zil μ e ρ) {c : Call} (hc : c.callee = .builtin .append) (h : zpe c C e H = .val v H') : z3s P B N μ w ρ ⟨dst, .call c, type, pos, after, guard⟩ v H' := by
 have h := zep h
 simp only [zac, zae, zbs, ycp, beqf] at h; obtain ⟨st, hst, ty, hty, ut, hut, uty, huty, htag, p, hp, h⟩ := h
 obtain ⟨X, Y, hXY, hX, hY⟩ := zv0 hE hp
 unfold zje at h; simp only [zac] at h; obtain ⟨el, hel, et, het, n, hn, new, hnew, h⟩ := h
 have hF := hT.facts het
 obtain ⟨z, hz, _, hzl⟩ := hF.zero (μ := μ)
 have hU := hT.facts huty
 obtain ⟨U, hUu⟩ := hU.und
 have hU2 : ∀ k, U ≠ .int k := by
  intro k e; subst e; have h0 := hU.desc
  unfold zha at h0; rw [hUu] at h0; rw [<- h0] at htag; exact htag rfl
 have ht0 : c.argTypes[0]? = some st := by simp_all
 have ht1 : c.argTypes[1]? = some ut := by simp_all
 have ha0 : (c.args.map ρ)[0]? = some (ρ X) := by simp_all
 have ha1 : (c.args.map ρ)[1]? = some (ρ Y) := by simp_all
 have hln := zzb7 (P := P) (w := w) hY hn
 obtain ⟨vn, hvn, hvl⟩ := z0f (P := P) hH hY hn hnew
 obtain ⟨vn2, hvn2, hvl2⟩ := z0f (P := P) hH.drew hY hn hnew
 have run : ∀ {v' w'}, (Builtin.append_ c.argTypes type (c.args.map ρ)).run P w = .ok v' w' -> (execOp ρ ⟨dst, .call c, type, pos, after, guard⟩).run P w = .ok (.value v') w' := by
  simp_all [zh3, builtin]
 have hsl := zdb (hT.facts hty) hel
 split at h
 ·rename_i s hs
  rw [zd4] at hs; rw [hs, zaq] at hX; rcases hX with ⟨i, cap', hi, hxv, hcap, htt, hrm⟩ | ⟨k1, k3, k4, A, rc, hxv, k2⟩
  rotate_left
  ·rw [hxv] at ha0
   rw [zay] at h; simp only [zg3] at h; obtain ⟨sb, so, sl, sc⟩ := s
   simp only at k1 k2 k3 k4
   subst k1 k3 k4
   simp only at h
   split at h
   ·rename_i hle
    have hn0 : n = 0 := by omega
    subst hn0; unfold zhj at h; split at h
    ·cases h
     rw [zbw] at hvl; subst hvl; refine ⟨.slice (some A) 0 rc, w, μ, .inl (run ?_), μ.le_refl, hH, Below.refl _ _, by grind [zaq]⟩
     have := zfv (type := type) (w' := w) hsl hUu hU2 hF ht0 ht1 ha0 ha1 hln (by omega) hvn rfl
     omega
    ·rw [zac] at h
     obtain ⟨H1, h1, _⟩ := h
     unfold zdw at h1; rw [zae, ycp] at h1; have h2 := h1.1
     have := hH.base
     grind [zdk]
   ·rename_i hgt
    unfold zkf at h; simp only [zae, zac] at h; obtain ⟨hmark, hg, cc, hcc, h⟩ := h
    obtain ⟨rfl, rfl⟩ : so = 0 /\ rc = 0 := by
     rcases k2 with k2 | rfl
     all_goals simp_all
    have hG := zm7 hg
    have hb1 : (0 + n) * et.bytes < 1000000000 := yam (ybi _ (by omega)) hG.bytes
    split at h
    ·rename_i hnone
     unfold zju at h; rw [zac] at h; obtain ⟨old, hold, h⟩ := h
     cases h; simp only [Nat.zero_mul] at hold
     cases hold; obtain ⟨nc, hnc, hr⟩ := zgp (w := w) hsl hUu hU2 hF ht0 ht1 ha0 ha1 hln (by omega) (by have := hG.small; omega) hb1 hG.b (old := #[]) (new := vn2.toArray) (z := z) (by show (loadCells A (0 * et.size)).run P w.drew = _; rw [Nat.zero_mul]; rfl) hvn2 hz
     rw [zca]; have hgr := hH.drew.newGrown hG hzl hnc (zbw.nil (μ := μ)) (by simp) hvl2 el
     refine ⟨_, _, _, .inl (run hr), hH.ext_le, hgr, zhq.trans (zcn hH.drew.size _), ?_⟩
     simp_all [zaq, Mu.ext_same]
    ·rename_i es hsome
     unfold zjv at h; simp only [zae, ybb, zds, zg3, zc5, ycp] at h; obtain ⟨⟨⟨⟨⟨⟨h1, h2⟩, h3⟩, h4⟩, h5⟩, h6⟩, h⟩ := h
     have := hH.base
     grind [zdk]
  rw [hxv] at ha0; rw [zay] at h; simp only [zg3] at h; split at h
  ·rename_i hle
   obtain ⟨rfl, w', h1, h2, h3⟩ := zzl9 (P := P) hbase hH h hi hvl
   refine ⟨.slice (some ⟨i.b, s.2.1, none⟩) (s.2.2.1 + n) cap', w', μ, .inl (run ?_), μ.le_refl, h2, h3, ?_⟩
   ·exact zfv hsl hUu hU2 hF ht0 ht1 ha0 ha1 hln (by omega) hvn h1
   grind [zaq]
  ·rename_i hgt
   unfold zkf at h; simp only [zae, zac] at h; obtain ⟨_, hg, cc, hcc, h⟩ := h
   have hG := zm7 hg
   have hb1 : (s.2.2.1 + n) * et.bytes < 1000000000 := yam (ybi _ (by omega)) hG.bytes
   split at h
   ·rename_i hnone
    unfold zju at h; rw [zac] at h; obtain ⟨old, hold, h⟩ := h
    cases h; have hti := zzfy hH hcc hi hnone
    obtain ⟨vo, _, hvo, hlo, _⟩ := hH.drew.manyAt (P := P) hcc hi hold
    have hcc' := htt hti
    obtain ⟨nc, hnc, hr⟩ := zgp (w := w) hsl hUu hU2 hF ht0 ht1 ha0 ha1 hln (by omega) (by have := hG.small; omega) hb1 hG.b (old := vo.toArray) (new := vn2.toArray) (z := z) hlo hvn2 hz
    rw [zca]; refine ⟨_, _, _, .inl (run hr), hH.ext_le, hH.drew.newGrown hG hzl hnc hvo (Tr.many_some _ _ _ _ hold).1 hvl2 el, zhq.trans (zcn hH.drew.size _), ?_⟩
    simp_all [zaq, Mu.ext_same]
   ·rename_i es hsome
    unfold zjv at h; simp only [zae, ybb, zds, zg3, zc5, ycp] at h; obtain ⟨⟨⟨⟨⟨⟨h1, h2⟩, h3⟩, h4⟩, h5⟩, h6⟩, h⟩ := h
    have h2 := zzb1.1 h2
    subst h2; have hown : B <= s.1 := by
     grind [zdk]
    have hNb := hH.own s.1 i hown hi
    have hxs := zdo hcc
    obtain ⟨o, g2, g3⟩ := hH.blk _ _ _ hxs hi
    have g3' := g3
    obtain ⟨cs, elem, fr, rfl, g4, g5, g6, g7⟩ := g3
    have g5 := g5.resolve_left (by simp_all)
    rw [hsome] at g7; obtain ⟨g8, g9, g10, g11⟩ := g7
    rw [zpl] at g9; have hone : ∀ a ∈ new, a.one = true := fun a ha => ycb.1 h5 a ha
    have hrm' := hrm g8
    rw [h1, g9, g10] at hrm'
    rw [hsome] at g3'
    have hlen1 := hvl.length
    have hlen2 := hvl2.length
    have htotal : s.2.2.1 * et.size + new.length = (s.2.2.1 + n) * et.size := by rw [hG.new, <- ybo]
    have hH2 := hH.drop s.1 (fun x t e => by have := (hH.pnd _ _ _ e).1; simp_all)
    by_cases hroom : s.2.2.1 + n <= cap'
    ·have hfit : (s.2.2.1 + n) * et.size <= cs.size := by
      have : (s.2.2.1 + n) * et.size <= cap' * et.size := ybi _ hroom
      omega
     obtain ⟨cs', hs', hj', hr'⟩ := zir (P := P) (o := s.2.2.1 * et.size) vn 0 cs w g2 g5 (by omega) (hvl.one hone)
     have hst' : (storeCells (Addr.add ⟨i.b, s.2.1, none⟩ (s.2.2.1 * et.size)) vn.toArray.toList).run P w = .ok () (World.setBlk w i.b (.cells cs' elem fr)) := by
      grind [zms]
     have hr := zfv (type := type) hsl hUu hU2 hF ht0 ht1 ha0 ha1 hln hroom hvn (w' := World.setBlk w i.b (.cells cs' elem fr)) hst'
     simp only [Option.some.injEq, Prod.mk.injEq] at h; obtain ⟨rfl, rfl⟩ := h
     refine ⟨_, _, μ.ext H.next i, .inl (run hr), hH.ext_le, ?_, zc9 hNb.1, ?_⟩
     ·refine hH2.adopt hNb ?_ (zr1 hH.ext_le.f g3' hvl h4 htotal (by omega) (by omega) ?_ ?_ ⟨g8, by grind [zpl], by omega⟩ g11)
      ·intro a x j ha hx hj hb
       have hx' : (if a = s.1 then none else H.t.get a) = some x := by grind [Tr.get_del]
       split at hx'
       ·cases hx'
       ·rename_i hne
        exact hne (hH.inj a s.1 x _ j i hx' hxs hj hi ha hown hb)
      all_goals grind
     grind [zaq, Mu.ext_same]
    ·have hlo : (Builtin.firstCells et.size s.2.2.1 (.slice (some ⟨i.b, s.2.1, none⟩) s.2.2.1 cap')).run P w.drew = .ok (cs.toList.take (s.2.2.1 * et.size)).toArray w.drew := by
      rw [h1]; exact zzu (w := w.drew) g2 (by omega)
     obtain ⟨nc, hnc, hr⟩ := zgp (w := w) (type := type) hsl hUu hU2 hF ht0 ht1 ha0 ha1 hln hroom (by have := hG.small; omega) hb1 hG.b (new := vn2.toArray) (z := z) hlo hvn2 hz
     have hzs := hzl.length
     simp only [ycz] at hzs; have hol : (cs.toList.take (s.2.2.1 * et.size)).length = s.2.2.1 * et.size := by grind
     have hsz2 : ((cs.toList.take (s.2.2.1 * et.size)).toArray ++ vn2.toArray ++ Builtin.zeroCells z.cells (nc - (s.2.2.1 + n))).size = nc * et.size := by
      simp only [Array.size_append, List.size_toArray, zmd, hol, hlen2, hG.new, hzs, hG.zero]; rw [<- ybo, <- ybo]; simp_all
     simp only [Option.some.injEq, Prod.mk.injEq] at h; obtain ⟨rfl, rfl⟩ := h
     refine ⟨_, _, μ.ext H.next ⟨w.heap.size, false, et.size, nc * et.size, false⟩, .inl (run hr), hH.ext_le, ?_, zhq.trans (zcn hH.drew.size _), ?_⟩
     ·refine hH2.drew.newBlk (H := ⟨H.next, H.t.del s.1⟩) rfl rfl (zr1 hH.ext_le.f g3' hvl2 h4 htotal ?_ (.inl (ybk _)) ?_ ?_ ⟨rfl, (zpl _ _).symm, hsz2.symm⟩ fun t => zzec)
      all_goals grind
     simp_all [zaq, Mu.ext_same]
 ·simp only [zae, zds, zk3.2.1] at h
  obtain ⟨hs, h⟩ := h
  rw [hs, zaq] at hX; rw [hX] at ha0; unfold zjc at h; rw [zay] at h; simp only [zds] at h; split at h
  ·rename_i hn0
   subst hn0
   cases h; refine ⟨.slice none 0 0, w, μ, .inl (run ?_), μ.le_refl, hH, Below.refl _ _, by rw [zaq]⟩
   have := zfv (type := type) (w' := w) hsl hUu hU2 hF ht0 ht1 ha0 ha1 hln (by omega) hvn rfl
   omega
  ·rename_i hn0
   simp only [zae] at h; obtain ⟨hg, h⟩ := h
   cases h; have hG := zm7 hg
   have hb1 : (0 + n) * et.bytes < 1000000000 := yam (ybi _ (by omega)) hG.bytes
   obtain ⟨nc, hnc, hr⟩ := zgp (w := w) hsl hUu hU2 hF ht0 ht1 ha0 ha1 hln (by omega) (by have := hG.small; omega) hb1 hG.b (old := #[]) (new := vn2.toArray) (z := z) rfl hvn2 hz
   rw [ybw] at hr hnc; have hgr := hH.drew.newGrown hG hzl (by omega) (zbw.nil (μ := μ)) (by simp) hvl2 el (newCap := nc)
   simp only [ybw] at hgr; refine ⟨_, _, _, .inl (run hr), hH.ext_le, hgr, zhq.trans (zcn hH.drew.size _), ?_⟩
   simp_all [zaq, Mu.ext_same]
end
end Go.Am
namespace Go.Am
open Go Go.RowKit
section
variable {P : Program} {C : Ctx} {B N : Nat} {μ : Mu} {H H' : zaf} {w : World} {I : World -> Prop}
variable {e : Env} {ρ : Operand -> Value} {dst : Option Tmp} {type : TypeId} {pos : String} {after : Array Edge} {guard : Option (Nat × Bool)} {v : zab}
def z06 (P : Program) (C : Ctx) : Prop := ∀ f fn, C.fns.get f = some fn -> P.funcs[f]? = some fn /\ (fn.name == "runtime.NumGoroutine") = false
def ztg (P : Program) (C : Ctx) (B N : Nat) (I : World -> Prop) : Prop := ∀ f g, C.prims.get f = some g -> ∀ args H v H', g args H = some (v, H') -> ∀ μ w args', zbp B N μ H w -> I w -> zbw μ args args'.toList →
 (H' = H /\ ∃ v', (callFunc f args').run P w = .ok (.value v') w /\ zaq μ v v') ∨
 ((callFunc f args').run P w = .ok (.enter f args') w /\ Calls P f args' w fun e w' => ∃ v' μ', e = .returned v' /\ μ.le μ' /\ zbp B N μ' H' w' /\ Below N w w' /\ zaq μ' v v')
theorem zuq (hE : zil μ e ρ) {c : Call} {f : Operand} (hc : c.callee = .value f) {p : AFn × List zab × List zab} (h : zeo f c.args e = some p) :
  ∃ fn cap as, (resolve ρ c type).run P w = .ok { target := .fn fn cap, args := as } w /\ z8c μ p.1 fn /\ zbw μ p.2.1 as.toList /\ zbw μ p.2.2 cap.toList := by
 unfold zeo at h; simp only [zac, zs7, zca] at h; obtain ⟨a, ha, q, rfl, as, has, h⟩ := h
 cases h; have hv := hE _ _ ha
 rw [zaq] at hv; obtain ⟨fn, first, cap, hfv, hfn, h1, h2⟩ := hv
 refine ⟨fn, cap, first ++ c.args.map ρ, ?_, hfn, ?_, h2⟩
 ·grind [resolve, Deferred.ofValue, Sem.run_pure]
 ·have h3 := hE.many has
  have := h1.append h3
  simp_all
theorem zis (hF : z06 P C) {f : Nat} {fn : Func} (hf : C.fns.get f = some fn) (hb : fn.body.isSome = true) {args : Array Value} : (callFunc f args).run P w = .ok (.enter f args) w := by
 obtain ⟨h1, h2⟩ := hF f fn hf
 unfold callFunc; simp only [yad, run_program, yac, h1, h2]; have : fn.body.isNone = false := by cases h : fn.body <;> simp [h] at hb ⊢
 simp [this]
def zyf (P : Program) (C : Ctx) (B N : Nat) (μ : Mu) (H : zaf) (w : World) (ρ : Operand -> Value) (o : Oper) : zqb -> Prop
 | .val v H' => z3s P B N μ w ρ o v H' \/ (∃ f args', (execOp ρ o).run P w = .ok (.enter f args') w /\ Calls P f args' w fun e w' => ∃ v' μ', e = .returned v' /\ μ.le μ' /\ zbp B N μ' H' w' /\ Below N w w' /\ zaq μ' v v')
 | .enter f args => ∀ fn, C.fns.get f = some fn -> fn.body.isSome = true -> ∃ args', (execOp ρ o).run P w = .ok (.enter f args') w /\ zbw μ args args'.toList
 | .round l args => ∃ i args', μ l = some i /\ zbw μ args args'.toList /\ (execOp ρ o).run P w = (Instr.yield i.b args').run P w
 | .defer d => (∃ c, o.op = .defer c) /\ ∃ d', (execOp ρ o).run P w = .ok (.defer d') w /\ zkp μ d d'
 | .panic v => ∃ v', (execOp ρ o).run P w = .halt (.panic v') w /\ zaq μ v v'
 | .recover => (execOp ρ o).run P w = .ok .recover w
 | .fail => True
theorem zzc4 (hF : z06 P C) (hP : ztg P C B N I) (hH : zbp B N μ H w) (hI : I w) (hE : zil μ e ρ) {c : Call} {f : Operand} (hc : c.callee = .value f) :
  zyf P C B N μ H w ρ ⟨dst, .call c, type, pos, after, guard⟩ (zsh f c.args C e H) := by
 unfold zsh
 cases hr : zeo f c.args e with
 | none => exact trivial
 | some p =>
  obtain ⟨fn, cap, as, h1, h2, h3, h3'⟩ := zuq (P := P) (w := w) (type := type) hE hc hr
  have run : (execOp ρ ⟨dst, .call c, type, pos, after, guard⟩).run P w = (invoke (.fn fn cap) as).run P w := by
   grind [execOp, Sem.run_bind, Result.andThen_ok]
  show zyf P C B N μ H w ρ _ (zzn8 C H p.2.1 p.2.2 p.1)
  obtain ⟨fa, args, caps⟩ := p
  cases fa with
  | func g =>
   cases h2; have run2 : (execOp ρ ⟨dst, .call c, type, pos, after, guard⟩).run P w = (callFunc g (as ++ cap)).run P w := by rw [run]; rfl
   have hl : zbw μ (zfp args caps) (as ++ cap).toList := by rw [zca]; simpa using h3.append h3'
   show zyf P C B N μ H w ρ _ (zvk C H (zfp args caps) g (C.prims.get g))
   cases hp : C.prims.get g with
   | none =>
    show ∀ fn, C.fns.get g = some fn -> _
    grind [zis]
   | some pr =>
    cases hv : pr (zfp args caps) H with
    | none => simp only [zvk, hv]; exact trivial
    | some x =>
     obtain ⟨v, H'⟩ := x
     simp only [zvk, hv]; rcases hP g pr hp _ H v H' hv μ w (as ++ cap) hH hI hl with ⟨rfl, v', h4, h5⟩ | ⟨h4, h5⟩
     ·exact Or.inl ⟨v', w, μ, .inl (by simp_all), μ.le_refl, hH, Below.refl _ _, h5⟩
     ·exact Or.inr ⟨g, as ++ cap, by simp_all, h5⟩
  | yld l =>
   obtain ⟨i, hi, rfl⟩ := h2
   show zyf P C B N μ H w ρ _ (z0s l args caps)
   cases caps with
   | cons a b => exact trivial
   | nil => exact ⟨i, as, hi, h3, by rw [run]; rfl⟩
theorem zzk2 (hT : zdh P C) (hbase : B <= C.base) (hF : z06 P C) (hP : ztg P C B N I) (hH : zbp B N μ H w) (hI : I w) (hE : zil μ e ρ) (o : Oper) : zyf P C B N μ H w ρ o ((aop o.op).f C e H) := by
 have light : (∃ l : LOp, (aop o.op).f = lv l /\ ∀ v, l C e H = some v -> LOk P μ w ρ o v) -> zyf P C B N μ H w ρ o ((aop o.op).f C e H) := by
  rintro ⟨l, h1, h2⟩
  rw [h1]; unfold lv
  cases h : l C e H with
  | none => exact trivial
  | some v => exact Or.inl ((h2 v h).hv hH)
 have val : ∀ x : Option (zab × zaf), (aop o.op).f C e H = ztm x -> (∀ v H', ztm x = .val v H' -> z3s P B N μ w ρ o v H') -> zyf P C B N μ H w ρ o ((aop o.op).f C e H) := by
  intro x h1 h2; rw [h1]
  cases x with
  | none => exact trivial
  | some p => exact Or.inl (h2 p.1 p.2 rfl)
 obtain ⟨dst, op, type, pos, after, guard⟩ := o
 cases op
 case move => exact light ⟨_, rfl, fun v h => z42 (C := C) (H := H) hE h⟩
 case assign => exact light ⟨_, rfl, fun v h => zu5 (C := C) (H := H) hE h⟩
 case pick => exact light ⟨_, rfl, fun v h => z41 (C := C) (H := H) hE h⟩
 case load => exact light ⟨_, rfl, fun v h => z43 hT hH hE h⟩
 case nilCheck => exact light ⟨_, rfl, fun v h => zzcb (C := C) (H := H) hE h⟩
 case binOp => exact light ⟨_, rfl, fun v h => zzck (H := H) hT hE h⟩
 case unOp => exact light ⟨_, rfl, fun v h => zzj3 (C := C) (H := H) hE h⟩
 case makeInterface => exact light ⟨_, rfl, fun v h => zz4 (H := H) hT hE h⟩
 case makeFunc => exact light ⟨_, rfl, fun v h => z44 (C := C) (H := H) hE h⟩
 case slice => exact light ⟨_, rfl, fun v h => zz2 hT hH hE h⟩
 case fieldAddr => exact light ⟨_, rfl, fun v h => zn2 (H := H) hT hE h⟩
 case field => exact light ⟨_, rfl, fun v h => zz5 (H := H) hT hE h⟩
 case indexAddr => exact light ⟨_, rfl, fun v h => zn1 (H := H) hT hE h⟩
 case index => exact light ⟨_, rfl, fun v h => zz3 (H := H) hT hE h⟩
 case extract => exact light ⟨_, rfl, fun v h => zr6 (C := C) (H := H) hE h⟩
 case build => exact light ⟨_, rfl, fun v h => zz6 (H := H) hT hE h⟩
 case typeAssert => exact light ⟨_, rfl, fun v h => zu6 (H := H) hT hE h⟩
 case lookup => exact light ⟨_, rfl, fun v h => zu4 hT hH hE h⟩
 case convert s d x =>
  show zyf P C B N μ H w ρ _ (zgq s d x C e H)
  cases h : zgq s d x C e H with
  | val v H' => exact Or.inl (z2w hT hH hE h)
  | fail => exact trivial
  | _ =>
   exfalso
   unfold zgq at h; split at h
   ·cases h
   ·revert h; unfold ztm; split <;> intro h <;> cases h
 case alloc => exact val _ rfl fun v H' h => zzc5 (e := e) hT hH h
 case box => exact val _ rfl fun v H' h => zzng (C := C) hH hE h
 case buildSlice => exact val _ rfl fun v H' h => zt1 hT hH hE h
 case store => exact val _ rfl fun v H' h => zz9 hT hbase hH hE h
 case makeMap t r =>
  show zyf P C B N μ H w ρ _ (zn6 r C e H)
  cases r with
  | none => exact Or.inl (z2v (C := C) (e := e) hH rfl)
  | some x => exact trivial
 case insert => exact val _ rfl fun v H' h => (zl1 hT hbase hH hE h).2
 case mapUpdate => exact val _ rfl fun v H' h => (zl1 hT hbase hH hE h).1
 case makeSlice => exact val _ rfl fun v H' h => zxb hT hH hE h
 case panic x =>
  show zyf P C B N μ H w ρ _ (z0b x C e H)
  unfold z0b
  cases hx : ev x e with
  | none => exact trivial
  | some a =>
   cases hf : a.asIface with
   | none => simp only [zad, hf, zzmh, zzgr]; exact trivial
   | some p =>
    simp only [zad, hf, zzgr]; have h1 := hE _ _ hx
    rw [zp8.1 hf, zaq] at h1; obtain ⟨x', h2, h3⟩ := h1
    refine ⟨.iface p.1 x', ?_, by grind [zaq]⟩
    simp [execOp, h2, Instr.panic]
 case defer c =>
  show zyf P C B N μ H w ρ _ ((zqy c c.callee).f C e H)
  cases hc : c.callee with
  | value f =>
   show zyf P C B N μ H w ρ _ (zzgr (ob (zeo f c.args e) fun p => some (.defer ⟨some p.1, 0, zfp p.2.1 p.2.2⟩)))
   cases hr : zeo f c.args e with
   | none => exact trivial
   | some p =>
    obtain ⟨fn, cap, as, h1, h2, h3, h3'⟩ := zuq (P := P) (w := w) (type := type) hE hc hr
    refine ⟨⟨c, rfl⟩, { target := .fn fn cap, args := as }, by grind [execOp, Sem.run_bind, Result.andThen_ok, Sem.run_pure], ⟨?_⟩⟩
    refine ⟨fn, cap, as, rfl, h2, ?_⟩
    show zbw μ (zfp p.2.1 p.2.2) _
    rw [zca]; simpa using h3.append h3'
  | _ => exact trivial
 case call c =>
  show zyf P C B N μ H w ρ _ ((zpd c c.callee).f C e H)
  cases hc : c.callee with
  | value f => exact zzc4 hF hP hH hI hE hc
  | builtin b =>
   cases b
   case append =>
    show zyf P C B N μ H w ρ _ (zpe c C e H)
    cases h : zpe c C e H with
    | val v H' => exact Or.inl (z7a hT hbase hH hE hc h)
    | fail => exact trivial
    | _ => exfalso; revert h; unfold zpe ztm; split <;> intro h <;> cases h
   case len =>
    show zyf P C B N μ H w ρ _ (lv (z2q c) C e H)
    unfold lv
    cases h : z2q c C e H with
    | none => exact trivial
    | some v => exact Or.inl ((zzci hT hH hE hc h).hv hH)
   case max =>
    show zyf P C B N μ H w ρ _ (lv (zzcf c) C e H)
    unfold lv
    cases h : zzcf c C e H with
    | none => exact trivial
    | some v => exact Or.inl ((zzce (C := C) (H := H) hE hc h).hv hH)
   case min =>
    show zyf P C B N μ H w ρ _ (lv (zzcd c) C e H)
    unfold lv
    cases h : zzcd c C e H with
    | none => exact trivial
    | some v => exact Or.inl ((zzcc (C := C) (H := H) hE hc h).hv hH)
   case recover =>
    show (execOp ρ ⟨dst, .call c, type, pos, after, guard⟩).run P w = _
    rw [zh3 hc]; rfl
   all_goals exact trivial
  | invoke r m => exact trivial
 all_goals exact trivial
end
end Go.Am
namespace Go.Am
open Go Go.RowKit
inductive zbr (μ : Mu) : zcj -> Item -> Prop
 | code (c : Code) : zbr μ (.code c) (.code c)
 | inBlock (id : Nat) : zbr μ (.inBlock id) (.inBlock id)
 | inLoop (c : Code) : zbr μ (.inLoop c) (.inLoop c)
 | inScope (c : Code) : zbr μ (.inScope c) (.inScope c)
 | ops (all : Array Oper) (i : Nat) (h : i <= all.size) : zbr μ (.ops all (all.toList.drop i)) (.inRegion all ((List.range all.size).drop i))
 | inRange (l : Nat) (i : BI) (h : μ l = some i) : zbr μ (.inRange l) (.inRangeFunc i.b)
 | endRange (l : Nat) (i : BI) (h : μ l = some i) : zbr μ (.endRange l) (.endRangeFunc i.b)
 | beginRound : zbr μ .beginRound .beginRound
theorem zbr.mono {μ ν : Mu} (h : μ.lw ν) {a : zcj} {b : Item} (k : zbr μ a b) : zbr ν a b := by
 cases k with
 | code c => exact .code c
 | inBlock id => exact .inBlock id
 | inLoop c => exact .inLoop c
 | inScope c => exact .inScope c
 | ops all i hi => exact .ops all i hi
 | inRange l i hl => exact .inRange l i (h _ _ hl)
 | endRange l i hl => exact .endRange l i (h _ _ hl)
 | beginRound => exact .beginRound
structure zi4 (μ : Mu) (p : zqc) (e : PanicEntry) : Prop where
 v : zaq μ p.v e.v
 recovered : e.recovered = p.recovered
 goexit : e.goexit = false
theorem zi4.mono {μ ν : Mu} (h : μ.lw ν) {p : zqc} {e : PanicEntry} (k : zi4 μ p e) : zi4 ν p e := ⟨k.v.mono h _ _, k.recovered, k.goexit⟩
def zti (μ : Mu) : zqm -> FrameMode -> Prop
 | .run, .run => True
 | .returning, .returning => True
 | .panicking c, .panicking d => zfd (zi4 μ) c d
 | _, _ => False
theorem zti.mono {μ ν : Mu} (h : μ.lw ν) {a : zqm} {b : FrameMode} (k : zti μ a b) : zti ν a b := by
 cases a <;> cases b <;> first | exact zfd.mono (fun _ _ r => zi4.mono h r) k | exact k
def zi3 (μ : Mu) : Option Nat -> Option Nat -> Prop
 | none, none => True
 | some l, some m => ∃ i, μ l = some i /\ m = i.b
 | _, _ => False
theorem zi3.mono {μ ν : Mu} (h : μ.lw ν) {a b : Option Nat} (k : zi3 μ a b) : zi3 ν a b := by
 cases a <;> cases b <;> first | (obtain ⟨i, h1, h2⟩ := k; exact ⟨i, h _ _ h1, h2⟩) | exact k
structure zbv (μ : Mu) (R : zgz) (fr : Frame) : Prop where
 fn : fr.fn = R.fn
 size : fr.tmps.size = R.n
 defers : zfd (zkp μ) R.defers fr.defers
 mode : zti μ R.mode fr.mode
 kind : fr.kind = if R.deferred then .deferred else .normal
 round : zi3 μ R.roundOf fr.roundOf
theorem zbv.mono {μ ν : Mu} (h : μ.lw ν) {R : zgz} {fr : Frame} (k : zbv μ R fr) : zbv ν R fr :=
 ⟨k.fn, k.size, k.defers.mono fun _ _ r => r.mono h, k.mode.mono h, k.kind, k.round.mono h⟩
def ziq (o : Oper) (j : Nat) : Prop := ∃ e ∈ o.after.toList, Region.binds .any e = true /\ e.on = j
def zzi1 (ops : Array Oper) : (Nat -> Bool) -> List Nat -> Prop
 | S, [] => ∀ i, i < ops.size -> S i = true
 | S, i :: rest => ∃ o, ops[i]? = some o /\ S i = false /\ (∀ j, ziq o j -> S j = true) /\ zzi1 ops (fun k => S k || k == i) rest
theorem zzax {ops : Array Oper} {listed : Array Bool} {i : Nat} (h : i ∈ Region.ready .any ops listed) : ∃ o, ops[i]? = some o /\ listed.getD i true = false /\ ∀ j, ziq o j -> listed.getD j false = true := by
 unfold Region.ready at h; rw [List.mem_filter] at h; obtain ⟨h1, h2⟩ := h
 simp only [ybb, ycp] at h2; obtain ⟨h2, h3⟩ := h2
 cases ho : ops[i]? with
 | none => simp_all
 | some o =>
  rw [ho] at h3; refine ⟨o, rfl, h2, ?_⟩
  rintro j ⟨e, he, hb, rfl⟩
  grind [Array.all_eq_true']
theorem zzgu {ops : Array Oper} {listed : Array Bool} {i : Nat} {o : Oper} (ho : ops[i]? = some o) (h1 : listed.getD i true = false) (h2 : ∀ j, ziq o j -> listed.getD j false = true) : i ∈ Region.ready .any ops listed := by
 unfold Region.ready; rw [List.mem_filter]; refine ⟨by grind, ?_⟩
 rw [h1, ho]; simp only [ycl, ycn, Option.map_some, Option.getD_some, Array.all_eq_true']; intro e he
 cases hb : Region.binds .any e with
 | false => rfl
 | true => simpa using h2 e.on ⟨e, by simp_all, hb, rfl⟩
def Back (ops : Array Oper) : Prop := ∀ i o, ops[i]? = some o -> ∀ j, ziq o j -> j < i
theorem zzd8 {p q : Nat -> Bool} (hqp : ∀ k, q k = true -> p k = true) {i : Nat} (hp : p i = true) (hq : q i = false) : ∀ l : List Nat, i ∈ l -> l.countP q + 1 <= l.countP p := by
 have le : ∀ l : List Nat, l.countP q <= l.countP p := fun l => List.countP_mono_left fun k _ h => hqp k h
 intro l; induction l with
 | nil => simp_all
 | cons k l ih =>
  grind
theorem zzgl {ops : Array Oper} (hb : Back ops) : ∀ (fuel t : Nat) (listed : Array Bool), listed.size = ops.size →
  (List.range ops.size).countP (fun i => !listed.getD i true) <= fuel →
  zzi1 ops (fun i => listed.getD i false) (Region.linearise.go .any ops fuel t listed []) := by
 intro fuel; induction fuel with
 | zero =>
  intro t listed hs hc; simp only [Region.linearise.go, List.reverse_nil]; intro i hi; simp_all
 | succ fuel ih =>
  intro t listed hs hc; simp only [Region.linearise.go]; change zzi1 ops _ (match (Region.ready .any ops listed)[t % (Region.ready .any ops listed).length]? with
   | some i => Region.linearise.go .any ops fuel (t / (Region.ready .any ops listed).length) (listed.setIfInBounds i true) [i]
   | none => [].reverse)
  cases hi : (Region.ready .any ops listed)[t % (Region.ready .any ops listed).length]? with
  | none =>
   have hnil : Region.ready .any ops listed = [] := by
    cases hr : Region.ready .any ops listed with
    | nil => rfl
    | cons x xs =>
     grind [Nat.mod_lt]
   show ∀ i, i < ops.size -> listed.getD i false = true
   intro i; induction i using Nat.strongRecOn with
   | _ i ihi =>
    intro hlt; refine Classical.byContradiction fun hne => ?_
    have ho : ops[i]? = some ops[i] := by simp [hlt]
    have hil : i < listed.size := by omega
    have h1 : listed.getD i true = false := by
     simp_all
    have := zzgu ho h1 fun j hj => ihi j (hb i _ ho j hj) (Nat.lt_trans (hb i _ ho j hj) hlt)
    simp_all
  | some i =>
   simp only []; rw [linearise_go_acc, List.reverse_singleton, List.singleton_append]; obtain ⟨o, ho, h1, h2⟩ := zzax (ycv hi)
   have hlt : i < ops.size := (ybe.1 ho).1
   have hil : i < listed.size := by omega
   refine ⟨o, ho, by simp_all, h2, ?_⟩
   have key : (fun k => listed.getD k false || k == i) = fun k => (listed.setIfInBounds i true).getD k false := by
    funext k
    simp only [ycx, ycs]; grind
   rw [key]; refine ih _ _ (by simp_all) ?_
   have hcnt : (List.range ops.size).countP (fun k => !(listed.setIfInBounds i true).getD k true) + 1 <= (List.range ops.size).countP (fun k => !listed.getD k true) := by
    refine zzd8 (fun k hk => ?_) (i := i) ?_ ?_ _ (List.mem_range.2 hlt)
    ·simp only [ycp, ycx, ycs] at hk ⊢
     grind
    all_goals simp_all
   omega
end Go.Am
namespace Go.Am
open Go Go.RowKit
theorem zzlq (m i : Nat) : tb m i = m.testBit i := by
 have h : Nat.mod (Nat.shiftRight m i) 2 = (m >>> i) % 2 := rfl
 unfold tb; show Nat.beq ((m >>> i) % 2) 1 = _
 rw [Nat.testBit, Nat.and_comm, Nat.and_one_is_mod]; rcases Nat.mod_two_eq_zero_or_one (m >>> i) with h | h <;> rw [h] <;> rfl
theorem zqo (i j : Nat) : tb (zxy i) j = (i == j) := by
 rw [zzlq]; show (1 <<< i).testBit j = _
 rw [Nat.one_shiftLeft, Nat.testBit_two_pow]
 cases h : (i == j) <;> simp_all
theorem z35 (a b j : Nat) : tb (Nat.lor a b) j = (tb a j || tb b j) := by
 simp_all [zzlq]
theorem zv3 (j : Nat) : tb 0 j = false := by rw [zzlq]; simp
theorem zj0 (e : Edge) : zs4 e = Region.binds .any e := by
 unfold zs4 Region.binds
 cases e.ground <;> rfl
def zmt (ops : Array Oper) (S : Nat -> Bool) : Prop := ∀ i o, ops[i]? = some o -> S i = true -> ∀ j, ziq o j -> S j = true
def zzoh (ops : Array Oper) (k m : Nat) : Prop := ∀ S, zmt ops S -> (∀ o, ops[k]? = some o -> ∀ j, ziq o j -> S j = true) -> ∀ j, tb m j = true -> S j = true
theorem zzbu {t : Tr Nat} {j : Nat} : ∀ {l : List Edge}, tb (zu1 t l) j = true -> ∃ e ∈ l, Region.binds .any e = true /\ (e.on = j \/ tb (zpf t e.on) j = true) := by
 intro l; induction l with
 | nil => grind [zu1, zv3]
 | cons e l ih =>
  grind [zu1, z35, zqo, zj0]
theorem zzhw {t : Tr Nat} {i k m : Nat} : zpf (t.set i m) k = if k = i then m else zpf t k := by
 unfold zpf; rw [Tr.get_set]; by_cases h : k = i <;> simp [h]
theorem zzc8 {k : Nat} : zpf .leaf k = 0 := rfl
theorem zey {α : Type} {l r : List α} {a : α} {i : Nat} (h : a :: r = l.drop i) : l[i]? = some a /\ r = l.drop (i + 1) := by
 have h1 : (l.drop i)[0]? = some a := by grind
 rw [yde] at h1; refine ⟨by omega, ?_⟩
 have : r = (l.drop i).drop 1 := by grind
 rw [this, List.drop_drop]
theorem zziv {ops : Array Oper} : ∀ (r : List Oper) (i : Nat) (t : Tr Nat), r = ops.toList.drop i -> (∀ k, zzoh ops k (zpf t k)) -> ∀ k, zzoh ops k (zpf (zzoc r i t) k) := by
 intro r; induction r with
 | nil => intro i t _ h k; exact h k
 | cons o r ih =>
  intro i t hr h; obtain ⟨h1, h2⟩ := zey hr
  refine ih (i + 1) _ h2 fun k => ?_
  rw [zzhw]; split
  ·rename_i e; subst e
   intro S hS hp j hj; obtain ⟨e, he, hb, hj⟩ := zzbu hj
   have ho : ops[k]? = some o := by simp_all
   have hon := hp o ho e.on ⟨e, he, hb, rfl⟩
   rcases hj with rfl | hj
   ·exact hon
   ·exact h e.on S hS (fun o' ho' => hS _ o' ho' hon) j hj
  grind
theorem zzbl {ops : Array Oper} : ∀ (r : List Oper) (i : Nat), r = ops.toList.drop i -> z4u r i = true -> ∀ k o, i <= k -> ops[k]? = some o -> ∀ j, ziq o j -> j < k := by
 intro r; induction r with
 | nil =>
  grind [List.drop_eq_nil_iff]
 | cons o r ih =>
  intro i hr h k o' hk ho; obtain ⟨h1, h2⟩ := zey hr
  unfold z4u at h; rw [zay] at h; split at h
  ·rename_i h3
   rcases Nat.eq_or_lt_of_le hk with rfl | hk
   ·have : o' = o := by
     simp_all
    subst this; rintro j ⟨e, he, hb, rfl⟩
    grind [zc5, zj0, zdk]
   grind
  ·cases h
def WrOk (ops : Array Oper) (i : Nat) (wr : Tr Nat) : Prop := ∀ d k, wr.get d = some k ↔ k < i /\ ∃ o, ops[k]? = some o /\ o.dst = some d
theorem zzle {ops : Array Oper} : ∀ (r : List Oper) (i : Nat) (t wr : Tr Nat), r = ops.toList.drop i -> i <= ops.size -> WrOk ops i t -> wrOf r i t = some wr -> WrOk ops ops.size wr := by
 intro r; induction r with
 | nil =>
  intro i t wr hr hi h he
  cases he; grind [List.drop_eq_nil_iff]
 | cons o r ih =>
  intro i t wr hr hi h he; obtain ⟨h1, h2⟩ := zey hr
  have ho : ops[i]? = some o := by simp_all
  have hi' : i < ops.size := (ybe.1 ho).1
  unfold wrOf at he
  cases hd : o.dst with
  | none =>
   rw [hd] at he; refine ih (i + 1) t wr h2 hi' (fun d k => ?_) he
   rw [h d k]; grind
  | some d0 =>
   rw [hd] at he; simp only [] at he
   cases hg : t.get d0 with
   | some x => simp_all
   | none =>
    rw [hg] at he; refine ih (i + 1) _ wr h2 hi' (fun d k => ?_) he
    rw [Tr.get_set]; by_cases hdd : d = d0
    ·subst hdd
     rw [yab rfl]; constructor
     ·grind
     ·rintro ⟨a, o', ho', hd'⟩
      rcases Nat.lt_succ_iff_lt_or_eq.1 a with a | rfl
      ·have := (h d k).2 ⟨a, o', ho', hd'⟩
       simp_all
      ·rfl
    ·rw [yaa hdd, h d k]
     grind
theorem zzgz {ops : Array Oper} {wr anc : Tr Nat} {olds : List (Nat × List Nat)} : ∀ (r : List Oper) (i : Nat), r = ops.toList.drop i -> zzg0 wr anc olds r i = true →
  ∀ k o, i <= k -> ops[k]? = some o -> z2d (zpf anc k) o.guard = true /\ ∀ t ∈ zb9 o.op, zzbj wr anc k (zda k olds) t = true := by
 intro r; induction r with
 | nil =>
  grind [List.drop_eq_nil_iff]
 | cons o r ih =>
  intro i hr h k o' hk ho; obtain ⟨h1, h2⟩ := zey hr
  unfold zzg0 at h; rw [zay] at h; split at h
  ·rename_i h3
   rw [zay] at h; split at h
   ·rename_i h4
    rcases Nat.eq_or_lt_of_le hk with rfl | hk
    all_goals grind [zc5]
   ·cases h
  ·cases h
structure ztf (ops : Array Oper) (olds : List (Nat × List Nat)) (anc : Tr Nat) : Prop where
 back : Back ops
 before : ∀ k, zzoh ops k (zpf anc k)
 one : ∀ (i j : Nat) (o u : Oper) (d : Nat), ops[i]? = some o -> ops[j]? = some u -> o.dst = some d -> u.dst = some d -> i = j
 guard : ∀ (k : Nat) (o : Oper), ops[k]? = some o -> z2d (zpf anc k) o.guard = true
 name : ∀ (k : Nat) (o : Oper) (j : Nat) (u : Oper) (t : Nat), ops[k]? = some o -> ops[j]? = some u -> u.dst = some t -> t ∈ zb9 o.op -> if t ∈ zda k olds then j = k \/ tb (zpf anc j) k = true else tb (zpf anc k) j = true
theorem zzbh {ops : Array Oper} {p : Plan} (h : zkr ops p = true) : ∃ anc D, ztf ops p.olds anc /\ zd9 ops.toList p.first 0 = some D /\ zcd ops.toList anc p.stages D = true := by
 change z2c ops.toList p = true at h
 unfold z2c at h; rw [zay] at h; split at h
 case isFalse => cases h
 rename_i hb
 cases hw : wrOf ops.toList 0 .leaf with
 | none => simp_all
 | some wr =>
  rw [hw] at h; simp only [] at h; rw [zay] at h; split at h
  case isFalse => cases h
  rename_i ho
  cases hl : zd9 ops.toList p.first 0 with
  | none => simp_all
  | some D =>
   rw [hl] at h; have wo : WrOk ops ops.size wr := zzle _ 0 _ _ rfl (yaw _) (fun d k => by simp [Tr.get_leaf]) hw
   have oo := zzgz _ 0 (by rfl) ho
   have wr' : ∀ k o d, ops[k]? = some o -> o.dst = some d -> wr.get d = some k := fun k o d h1 h2 => (wo d k).2 ⟨(ybe.1 h1).1, o, h1, h2⟩
   refine ⟨_, D, ⟨fun i o h1 => zzbl _ 0 rfl hb i o (yaw _) h1, zziv _ 0 _ rfl fun k S _ _ j hj => ?_, ?_, fun k o h1 => (oo k o (yaw _) h1).1, ?_⟩, rfl, h⟩
   all_goals grind [zzc8, zv3, zzbj, zfy, zds]
theorem zjn {ops : Array Oper} {i D D' : Nat} (h : zi9 ops.toList i D = some D') : ∃ o, ops[i]? = some o /\ tb D i = false /\ (∀ j, ziq o j -> tb D j = true) /\ ∀ k, tb D' k = (tb D k || k == i) := by
 unfold zi9 at h; rw [zac] at h; obtain ⟨o, h1, h2⟩ := h
 rw [zbs] at h1; rw [zae] at h2; obtain ⟨h2, h3⟩ := h2
 cases h3; rw [zay] at h2; split at h2
 ·cases h2
 ·rename_i h4
  refine ⟨o, by simp_all, by simp_all, ?_, fun k => by grind [z35, zqo]⟩
  rintro j ⟨e, he, hb, rfl⟩
  grind [zzft, zc5, zj0]
theorem zzbi {ops : Array Oper} {h D : Nat} : ∀ (r : List Oper) (i : Nat), r = ops.toList.drop i -> z4t h D r i = true →
  ∀ k o, i <= k -> ops[k]? = some o -> tb D k = false -> (∀ j, ziq o j -> tb D j = true) -> k = h := by
 intro r; induction r with
 | nil =>
  grind [List.drop_eq_nil_iff]
 | cons o r ih =>
  intro i hr h k o' hk ho; obtain ⟨h1, h2⟩ := zey hr
  unfold z4t at h; rw [zay] at h; split at h
  ·rename_i h3
   rcases Nat.eq_or_lt_of_le hk with rfl | hk
   ·have : o' = o := by
     simp_all
    subst this; intro hD hj; rw [hD] at h3; simp only [cond_false] at h3; rw [zay] at h3; split at h3
    ·simp_all
    ·exfalso
     have : zzft D o' = true := by
      unfold zzft; rw [zc5, ycb]; intro e he
      cases hb : zs4 e with
      | false => rfl
      | true => exact hj e.on ⟨e, he, by grind [zj0], rfl⟩
     simp_all
   grind
  ·cases h
theorem z6w {ops : Array Oper} {m D : Nat} {again : List Nat} : ∀ (r : List Oper) (i : Nat), r = ops.toList.drop i -> zwr m D again r i = true →
  ∀ k o, i <= k -> ops[k]? = some o -> tb D k = true -> tb m k = true \/ zqh o.op = true \/ ze5 o.op = true \/ k ∈ again := by
 intro r; induction r with
 | nil =>
  grind [List.drop_eq_nil_iff]
 | cons o r ih =>
  intro i hr h k o' hk ho; obtain ⟨h1, h2⟩ := zey hr
  unfold zwr at h; rw [zay] at h; split at h
  ·rename_i h3
   rcases Nat.eq_or_lt_of_le hk with rfl | hk
   all_goals grind [zfy]
  ·cases h
theorem zzg1 {ops : Array Oper} {D : Nat} : ∀ (r : List Oper) (i : Nat), r = ops.toList.drop i -> zzg2 D r i = true -> ∀ k, i <= k -> k < ops.size -> tb D k = true := by
 intro r; induction r with
 | nil =>
  grind [List.drop_eq_nil_iff]
 | cons o r ih =>
  intro i hr h k hk ho; obtain ⟨h1, h2⟩ := zey hr
  unfold zzg2 at h; rw [zay] at h; split at h
  ·rename_i h3
   rcases Nat.eq_or_lt_of_le hk with rfl | hk
   all_goals grind
  ·cases h
theorem zzp {ops : Array Oper} {anc : Tr Nat} {D : Nat} (h : zcd ops.toList anc [] D = true) : ∀ k, k < ops.size -> tb D k = true :=
 fun k hk => zzg1 _ 0 rfl h k (yaw _) hk
theorem zhi {ops : Array Oper} {anc : Tr Nat} {D : Nat} {st : zc7} {r : List zc7} (h : zcd ops.toList anc (st :: r) D = true) (hlt : st.heavy <= ops.size) :
  (∀ k o, ops[k]? = some o -> tb D k = false -> (∀ j, ziq o j -> tb D j = true) -> k = st.heavy) ∧
  (∀ k o, ops[k]? = some o -> tb D k = true -> tb (zpf anc st.heavy) k = true \/ zqh o.op = true \/ ze5 o.op = true \/ k ∈ st.again) ∧
  ∃ D1 D2, zi9 ops.toList st.heavy D = some D1 /\ zd9 ops.toList st.lights D1 = some D2 /\ zcd ops.toList anc r D2 = true := by
 unfold zcd at h; rw [zay, yaa fun e => by grind [zdk, za1], zay] at h; split at h
 case isFalse => cases h
 rename_i h1; rw [zay] at h; split at h
 case isFalse => cases h
 rename_i h2; refine ⟨fun k o a b c => zzbi _ 0 rfl h1 k o (yaw _) a b c, fun k o a b => z6w _ 0 rfl h2 k o (yaw _) a b, ?_⟩
 cases h3 : zi9 ops.toList st.heavy D with
 | none => simp_all
 | some D1 =>
  grind [zad]
theorem ztz {ops : Array Oper} {anc : Tr Nat} {D : Nat} {st : zc7} {r : List zc7} (h : zcd ops.toList anc (st :: r) D = true) (hlt : ops.size < st.heavy) (hle : st.heavy <= ops.size + ops.size) :
  ∃ o D1 D2, ops[st.heavy - (ops.size + 1)]? = some o /\ ze5 o.op = true /\ zi9 ops.toList (st.heavy - (ops.size + 1)) D = some D1 /\ zd9 ops.toList st.lights D1 = some D2 /\ zcd ops.toList anc r D2 = true := by
 have e0 : Nat.sub st.heavy (Nat.succ (zbf ops.toList)) = st.heavy - (ops.size + 1) := by rw [za1]; simp
 unfold zcd at h; rw [zay, yab (zdk.2 (by grind [za1])), zay, yaa (fun e => by grind [zdk]), zay, e0] at h
 split at h
 case isFalse => cases h
 rename_i h1
 cases h3 : zi9 ops.toList (st.heavy - (ops.size + 1)) D with
 | none => simp_all
 | some D1 =>
  rw [h3] at h; simp only [zad] at h
  cases h4 : zd9 ops.toList st.lights D1 with
  | none => simp_all
  | some D2 =>
   rw [h4] at h; rw [zbs] at h1
   cases ho : ops.toList[st.heavy - (ops.size + 1)]? with
   | none => grind
   | some o => rw [ho] at h1; exact ⟨o, D1, D2, by simp_all, h1, rfl, h4, h⟩
structure z3t (ops : Array Oper) (anc : Tr Nat) (D : Nat) (G : List Nat) (D1 : Nat) : Prop where
 op : ∀ i ∈ G, ∃ o, ops[i]? = some o /\ tb D i = false /\ (∀ j, ziq o j -> tb D j = true) /\ o.dst = none
 nodup : G.Nodup
 done : ∀ k, tb D1 k = (tb D k || decide (k ∈ G))
 rest : ∀ k o, ops[k]? = some o -> tb D1 k = false -> (∀ g ∈ G, tb (zpf anc k) g = true) \/ ¬ ∀ j, ziq o j -> tb D1 j = true
 again : ∀ k o, ops[k]? = some o -> tb D k = true -> zqh o.op = true \/ ze5 o.op = true \/ zz7 o.op = true \/ ∀ g ∈ G, tb (zpf anc g) k = true
theorem z34 {D : Nat} {o : Oper} : zzft D o = true ↔ ∀ j, ziq o j -> tb D j = true := by
 unfold zzft; rw [zc5, ycb]; constructor
 ·rintro h j ⟨e, he, hb, rfl⟩
  grind [zj0]
 ·intro h e he
  cases hb : zs4 e with
  | false => rfl
  | true => exact h e.on ⟨e, he, by grind [zj0], rfl⟩
theorem okG_ok {ops : Array Oper} {D : Nat} : ∀ {G : List Nat} {E D1 : Nat}, okG ops.toList D G E = some D1 -> (∀ k, tb D k = true -> tb E k = true) →
  (∀ i ∈ G, ∃ o, ops[i]? = some o /\ tb E i = false /\ (∀ j, ziq o j -> tb D j = true) /\ o.dst = none) /\ G.Nodup /\ ∀ k, tb D1 k = (tb E k || decide (k ∈ G)) := by
 intro G; induction G with
 | nil => intro E D1 h _; cases h; simp_all
 | cons i G ih =>
  intro E D1 h hDE; unfold okG at h; simp only [zac, zae, ybb, ycp, zbs] at h; obtain ⟨o, ho, ⟨⟨h1, h2⟩, h3⟩, h⟩ := h
  have hE : ∀ k, tb (Nat.lor E (zxy i)) k = (tb E k || i == k) := fun k => by rw [z35, zqo]
  obtain ⟨g1, g2, g3⟩ := ih h (fun k hk => by simp_all)
  have hni : i ∉ G := fun hi => by
   grind
  refine ⟨fun j hj => ?_, List.nodup_cons.2 ⟨hni, g2⟩, fun k => ?_⟩
  ·rcases ybs.1 hj with rfl | hj
   ·refine ⟨o, by simp_all, h1, z34.1 h2, ?_⟩
    cases hd : o.dst with
    | none => rfl
    | some d => rw [hd] at h3; cases h3
   grind
  grind
theorem zzbg {ops : Array Oper} {anc : Tr Nat} {D1 : Nat} {G : List Nat} : ∀ (r : List Oper) (i : Nat), r = ops.toList.drop i -> z4s anc D1 G r i = true →
  ∀ k o, i <= k -> ops[k]? = some o -> tb D1 k = false -> (∀ g ∈ G, tb (zpf anc k) g = true) \/ ¬ ∀ j, ziq o j -> tb D1 j = true := by
 intro r; induction r with
 | nil =>
  grind [List.drop_eq_nil_iff]
 | cons o r ih =>
  intro i hr h k o' hk ho; obtain ⟨h1, h2⟩ := zey hr
  unfold z4s at h; rw [zay] at h; split at h
  case isFalse => cases h
  rename_i h3; rcases Nat.eq_or_lt_of_le hk with rfl | hk
  all_goals grind [zc5, z34]
theorem z2e {ops : Array Oper} {anc : Tr Nat} {D : Nat} {G : List Nat} : ∀ (r : List Oper) (i : Nat), r = ops.toList.drop i -> zqs anc D G r i = true →
  ∀ k o, i <= k -> ops[k]? = some o -> tb D k = true -> zqh o.op = true \/ ze5 o.op = true \/ zz7 o.op = true \/ ∀ g ∈ G, tb (zpf anc g) k = true := by
 intro r; induction r with
 | nil =>
  grind [List.drop_eq_nil_iff]
 | cons o r ih =>
  intro i hr h k o' hk ho; obtain ⟨h1, h2⟩ := zey hr
  unfold zqs at h; rw [zay] at h; split at h
  case isFalse => cases h
  rename_i h3; rcases Nat.eq_or_lt_of_le hk with rfl | hk
  all_goals grind [zc5]
theorem zty {ops : Array Oper} {anc : Tr Nat} {D : Nat} {st : zc7} {r : List zc7} (h : zcd ops.toList anc (st :: r) D = true) (hlt : ops.size + ops.size < st.heavy) :
  ∃ D1 D2, z3t ops anc D st.again D1 /\ zd9 ops.toList st.lights D1 = some D2 /\ zcd ops.toList anc r D2 = true := by
 unfold zcd at h; rw [zay, yab (zdk.2 (by grind [za1])), zay, yab (zdk.2 (by grind [za1]))] at h
 split at h
 case h_2 => cases h
 rename_i D2 hg; unfold zzbk at hg; simp only [zac, zae, ybb] at hg; obtain ⟨D1, h1, ⟨h2, h3⟩, h4⟩ := hg
 obtain ⟨g1, g2, g3⟩ := okG_ok h1 fun _ h => h
 exact ⟨D1, D2, ⟨g1, g2, g3, fun k o a b => zzbg _ 0 rfl h2 k o (yaw _) a b, fun k o a b => z2e _ 0 rfl h3 k o (yaw _) a b⟩, h4, h⟩
end Go.Am
namespace Go.Am
open Go Go.RowKit
section
variable {P : Program} {C : Ctx} {μ : Mu} {all : Array Oper} {olds : List (Nat × List Nat)} {anc : Tr Nat} {n : Nat} {old tm : Tm} {D : Nat} {S : Nat -> Bool} {order : List Nat} {tmps : Array Value} {ds : List Deferred}
theorem zlt : zaq μ zbj undef := by rw [zbj, zaq]; exact ⟨#[], rfl, rfl⟩
theorem zzdl {e : Env} (hg : ∀ g, g < 256 -> μ g = some ⟨g, true, 0, 0, true⟩) (ht : ∀ t v, zzfc t e = some v -> zaq μ v (tmps.getD t undef)) : zil μ e (Act.eval ⟨tmps, ds⟩) := by
 intro x v h
 cases x with
 | tmp t => exact ht t v h
 | const c => exact z2f h
 | global g =>
  change z1c g e = some v at h
  unfold z1c at h; rw [zay] at h; split at h
  ·rename_i hlt
   cases h; rw [zaq]; exact ⟨_, hg g (zdk.1 hlt), rfl⟩
  ·cases h
 | func f =>
  change xFunc f e = some v at h
  cases h; rw [zaq]; exact ⟨.func f, #[], #[], rfl, rfl, rfl, rfl⟩
theorem zc3.erel (hg : ∀ g, g < 256 -> μ g = some ⟨g, true, 0, 0, true⟩) (h : zc3 μ n tm tmps) : zil μ (.now tm) (Act.eval ⟨tmps, ds⟩) :=
 zzdl hg fun t v hv => h.2 t v hv
theorem Tm.get_set {t : Tm} {i j : Nat} {x : zab} : (t.set i x).get j = if j = i then some x else t.get j := by
 unfold Tm.set Tm.get; simp only [zqk]; by_cases h : Nat.blt i t.k = true
 ·grind [Tr.get_set]
 ·rw [yaa h]
  grind [assoc, zqk, zds]
theorem zby {dst : Option Nat} {v : zab} {t : Nat} : (putA n tm dst v).get t = if dst = some t /\ t < n then some v else tm.get t := by
 unfold putA putB
 cases dst with
 | none => simp [putNo]
 | some d =>
  grind [z6q, Tm.get_set, zdk]
def znr (tm old : Tm) (olds : List (Nat × List Nat)) (i : Nat) (o : Oper) : Env := .mixed tm old (zda i olds) (zb9 o.op)
structure zce (μ : Mu) (all : Array Oper) (olds : List (Nat × List Nat)) (anc : Tr Nat) (n : Nat) (old tm : Tm) (D : Nat) (S : Nat -> Bool) (order : List Nat) (tmps : Array Value) : Prop where
 reg : ztf all olds anc
 sched : zzi1 all S order
 sub : ∀ i, S i = true -> tb D i = true
 closed : zmt all S
 dclosed : zmt all (tb D)
 size : tmps.size = n
 now : ∀ (i : Nat) (o : Oper) (d : Nat) (v : zab), all[i]? = some o -> o.dst = some d -> S i = true -> d < n -> tm.get d = some v -> zaq μ v (tmps.getD d undef)
 past : ∀ (d : Nat) (v : zab), d < n -> (∀ (i : Nat) (o : Oper), all[i]? = some o -> o.dst = some d -> S i = false) -> old.get d = some v -> zaq μ v (tmps.getD d undef)
 keep : ∀ d : Nat, d < n -> (∀ (i : Nat) (o : Oper), all[i]? = some o -> o.dst = some d -> tb D i = false) -> tm.get d = old.get d
 big : ∀ (d : Nat) (v : zab), n <= d -> (tm.get d = some v \/ old.get d = some v) -> zaq μ v undef
theorem ztf.up (R : ztf all olds anc) (hS : zmt all S) {i j : Nat} {o : Oper} (ho : all[i]? = some o) (hp : ∀ j, ziq o j -> S j = true) (h : tb (zpf anc i) j = true) : S j = true :=
 R.before i S hS (fun o' ho' => by simp_all) j h
theorem zl2 {d : Nat} (h : tmps.size <= d) : tmps.getD d undef = undef := by
 simp_all
theorem zce.erel (R : zce μ all olds anc n old tm D S order tmps) (hg : ∀ g, g < 256 -> μ g = some ⟨g, true, 0, 0, true⟩) {i : Nat} {o : Oper} (ho : all[i]? = some o) (hi : S i = false) (hp : ∀ j, ziq o j -> S j = true) :
  zil μ (znr tm old olds i o) (Act.eval ⟨tmps, ds⟩) := by
 refine zzdl hg fun t v h => ?_
 unfold znr at h; simp only [zzfc] at h; rw [zay] at h; split at h
 case isFalse => cases h
 rename_i hn; have hn := (zfy _ _).1 hn
 by_cases hd : t < n
 ·by_cases hw : ∃ (j : Nat) (u : Oper), all[j]? = some u /\ u.dst = some t
  ·obtain ⟨j, u, hu, hud⟩ := hw
   have nm := R.reg.name i o j u t ho hu hud hn
   by_cases hold : t ∈ zda i olds
   ·rw [yab hold] at nm
    rw [(zfy _ _).2 hold] at h
    simp only [cond_true] at h; have hj : S j = false := by
     rcases nm with rfl | nm
     ·exact hi
     ·cases hj : S j with
      | false => rfl
      | true =>
       have := R.reg.up R.closed hu (fun k hk => R.closed j u hu hj k hk) nm
       simp_all
    refine R.past t v hd (fun i' o' ho' hd' => ?_) h
    have := R.reg.one i' j o' u t ho' hu hd' hud
    simp_all
   ·rw [yaa hold] at nm
    have : zc6 t (zda i olds) = false := by
     grind [zfy]
    rw [this] at h; simp only [cond_false] at h; exact R.now j u t v hu hud (R.reg.up R.closed ho hp nm) hd h
  ·have none1 : ∀ (i : Nat) (o : Oper), all[i]? = some o -> o.dst = some t -> S i = false := fun i o h1 h2 => absurd ⟨i, o, h1, h2⟩ hw
   have k := R.keep t hd fun i o h1 h2 => absurd ⟨i, o, h1, h2⟩ hw
   refine R.past t v hd none1 ?_
   grind
 ·rw [zl2 (by rw [R.size]; omega)]
  refine R.big t v (by omega) ?_
  grind
theorem zyl {v : zab} {b : Bool} (h : zaq μ v (.bool b)) : v = .bool b := by
 cases v <;> rw [zaq] at h
 all_goals simp_all
theorem zce.wanted (R : zce μ all olds anc n old tm D S order tmps) {i : Nat} {o : Oper} {w : Bool} (ho : all[i]? = some o) (hp : ∀ j, ziq o j -> S j = true) (h : zbi o.guard all tm = some w) :
  Region.wanted o (yielded all tmps) = w := by
 have hgd := R.reg.guard i o ho
 unfold zbi z8q at h; unfold Region.wanted
 cases hg : o.guard with
 | none => rw [hg] at h; cases h; rfl
 | some jw =>
  obtain ⟨j, want⟩ := jw
  rw [hg] at h hgd; simp only [zyk, zac, zbs] at h; obtain ⟨d, ⟨u, hu, hud⟩, v, hv, h⟩ := h
  have hu' : all[j]? = some u := by simp_all
  have hj : S j = true := R.reg.up R.closed ho hp hgd
  have hy : yielded all tmps j = match tmps[d]? with | some (.bool b) => some b | _ => none := by
   grind [yielded]
  simp only []; rw [hy]; by_cases hd : d < n
  ·have hs : d < tmps.size := by rw [R.size]; exact hd
   have rel := R.now j u d v hu' hud hj hd hv
   have e1 : tmps[d]? = some (tmps.getD d undef) := by simp_all
   rw [e1]; generalize tmps.getD d undef = x at rel
   cases hb : v.asBool with
   | some b =>
    rw [hb] at h; have : v = .bool b := by cases v <;> simp [zab.asBool] at hb; rw [hb]
    rw [this, zaq] at rel; subst rel; simp only [Option.some.injEq] at h; rw [<- h, zoq]
    cases b <;> cases want <;> rfl
   | none =>
    rw [hb] at h
    cases h
    cases x with
    | bool b => rw [zyl rel] at hb; cases hb
    | _ => rfl
  ·have e1 : tmps[d]? = none := by simp [R.size]; omega
   rw [e1]; have rel := R.big d v (by omega) (.inl hv)
   cases hb : v.asBool with
   | some b =>
    have : v = .bool b := by cases v <;> simp [zab.asBool] at hb; rw [hb]
    rw [this, zaq] at rel
    cases rel
   | none => simp_all
theorem zce.did {i : Nat} {D' : Nat} {tm' : Tm} {v : zab} {v' : Value} {o : Oper} (R : zce μ all olds anc n old tm D S (i :: order) tmps) (ho : all[i]? = some o)
  (hD : ∀ k, tb D' k = (tb D k || k == i)) (hput : ∀ d, o.dst = some d -> d < n -> tm'.get d = some v) (hother : ∀ d, (o.dst = some d -> n <= d) -> tm'.get d = tm.get d) (hv : zaq μ v v') :
  zce μ all olds anc n old tm' D' (fun k => S k || k == i) order (Act.put ⟨tmps, ds⟩ o.dst v').tmps := by
 obtain ⟨o', ho', hi, hp, hs⟩ := R.sched
 rw [ho] at ho'; cases ho'
 have htm : ∀ d, (Act.put ⟨tmps, ds⟩ o.dst v').tmps.getD d undef = if o.dst = some d /\ d < n then v' else tmps.getD d undef := by
  intro d; unfold Act.put
  cases hd : o.dst with
  | none => simp
  | some d0 =>
   simp only [ycx, ycs]; by_cases e : d0 = d
   ·subst e
    by_cases hn : d0 < n
    ·simp [hn, R.size]
    ·simp [hn, R.size]
   grind
 have hsz : (Act.put ⟨tmps, ds⟩ o.dst v').tmps.size = n := by
  unfold Act.put
  cases o.dst <;> simp [R.size]
 refine ⟨R.reg, hs, fun k hk => ?_, ?_, ?_, hsz, ?_, ?_, ?_, ?_⟩
 ·rw [hD]
  simp only [ycq] at hk ⊢
  exact hk.imp (R.sub k) id
 ·intro k u hu hk j hj
  simp only [ycq, beq_iff_eq] at hk ⊢
  rcases hk with hk | rfl
  ·exact .inl (R.closed k u hu hk j hj)
  simp_all
 ·intro k u hu hk j hj
  rw [hD] at hk ⊢
  simp only [ycq, beq_iff_eq] at hk ⊢
  rcases hk with hk | rfl
  ·exact .inl (R.dclosed k u hu hk j hj)
  ·rw [ho] at hu; cases hu
   exact .inl (R.sub j (hp j hj))
 ·intro k u d x hu hud hk hd hx
  rw [htm]; by_cases e : o.dst = some d
  ·simp_all
  ·rw [yaa fun h => e h.1]
   rw [hother d fun h => absurd h e] at hx; refine R.now k u d x hu hud ?_ hd hx
   grind
 ·intro d x hd hw hx
  rw [htm]; have e : o.dst ≠ some d := fun e => by
   grind
  rw [yaa fun h => e h.1]; refine R.past d x hd (fun k u hu hud => ?_) hx
  simp_all
 ·intro d hd hw
  have e : o.dst ≠ some d := fun e => by
   grind
  rw [hother d fun h => absurd h e]; refine R.keep d hd fun k u hu hud => ?_
  simp_all
 ·intro d x hd hx
  refine R.big d x hd ?_
  simp_all
end
end Go.Am
namespace Go.Am.HM
open Go Go.Am
def HLe (H H' : zaf) : Prop := ∀ b y, H.t.get b = some y -> H'.t.get b = some y
section
variable {H HA : zaf} {e : Env} {C : Ctx} {v : zab}
theorem zc1 (h : HLe H HA) {b : Nat} {p : Tr zab × Nat × Option Lo} (hb : zax H b = some p) : zax HA b = some p := by
 unfold zax at hb ⊢; rw [zac] at hb ⊢; obtain ⟨y, h1, h2⟩ := hb; exact ⟨y, h _ _ h1, h2⟩
theorem zfk (h : HLe H HA) {b : Nat} {p : List (zab × zab)} (hb : zf6 H b = some p) : zf6 HA b = some p := by
 unfold zf6 at hb ⊢; rw [zac] at hb ⊢; obtain ⟨y, h1, h2⟩ := hb; exact ⟨y, h _ _ h1, h2⟩
theorem zpj (h : HLe H HA) {s d : ATy} {a : zab} (hx : zpk C s d a H = some v) : zpk C s d a HA = some v := by
 unfold zpk at hx ⊢
 split at hx
 ·omega
 ·rename_i hk
  rw [zae] at hx ⊢
  refine ⟨hx.1, ?_⟩
  have hx := hx.2
  rw [zay] at hx ⊢
  split at hx
  all_goals grind [zac, zae, zjz, zc1]
theorem zmz (h : HLe H HA) {ty : ATy} {a : zab} {l r : Option zab} (hx : zga C H ty a l r = some v) : zga C HA ty a l r = some v := by
 have row : ∀ {arr e b off len cap}, zd7 C H arr e b off len cap l r = some v -> zd7 C HA arr e b off len cap l r = some v := by
  intro arr e b off len cap hx; unfold zd7 at hx ⊢
  simp only [zac] at hx ⊢
  obtain ⟨a1, h1, b1, h2, hx⟩ := hx
  refine ⟨a1, h1, b1, h2, ?_⟩
  cases hb : zax H b with
  | none =>
   have e1 : zdj H b a1.size cap b1.1 arr = false := by unfold zdj; rw [hb]
   have e2 : zc2 H b a1.size cap b1.1 arr = false := by unfold zc2; rw [hb]
   rw [e1, e2, yay, yay] at hx
   cases hx
  | some c =>
   grind [zdj, zc1, zc2]
 grind [zga, zac]
theorem zo9 (h : HLe H HA) {m : zab} {l : List (zab × zab)} (hx : zwz H m = some l) : zwz HA m = some l := by
 grind [zwz, zfk]
theorem zr3 (h : HLe H HA) {ty : ATy} {a : zab} {n : Nat} (hx : z8i H ty a = some n) : z8i HA ty a = some n := by
 unfold z8i at hx ⊢
 split at hx
 all_goals grind [zae, zac, zfk]
theorem alight_mono (h : HLe H HA) {o : Op} (hx : (zb2 o).f C e H = some v) : (zb2 o).f C e HA = some v := by
 cases o <;> first | exact hx | skip
 case makeFunc fn a b => cases fn <;> exact hx
 case load t a =>
  change zr5 t a C e H = some v at hx
  show zr5 t a C e HA = some v
  unfold zr5 at hx ⊢
  simp only [zac] at hx ⊢
  grind [zc1]
 case convert s d x =>
  change zma s d x C e H = some v at hx
  show zma s d x C e HA = some v
  unfold zma at hx ⊢
  simp only [zac] at hx ⊢
  grind [zpj]
 case slice t x lo hi mx =>
  cases mx with
  | some m => exact hx
  | none =>
   change zn0 t x lo hi C e H = some v at hx
   show zn0 t x lo hi C e HA = some v
   unfold zn0 at hx ⊢
   simp only [zac] at hx ⊢
   grind [zmz]
 case lookup t x i ok =>
  change zh6 t x i ok C e H = some v at hx
  show zh6 t x i ok C e HA = some v
  unfold zh6 at hx ⊢
  simp only [zac, zae] at hx ⊢
  grind [zo9]
 case call c =>
  change (zgj c c.callee).f C e H = some v at hx
  show (zgj c c.callee).f C e HA = some v
  cases hc : c.callee with
  | builtin b =>
   rw [hc] at hx
   cases b <;> first | exact hx | skip
   case len =>
    change z2q c C e H = some v at hx
    show z2q c C e HA = some v
    unfold z2q at hx ⊢
    simp only [zac] at hx ⊢
    grind [zr3]
  | _ => rw [hc] at hx; exact hx
end
end Go.Am.HM
namespace Go.Am
open Go Go.RowKit
theorem z3p {o : Op} (h : zqh o = true) (C : Ctx) (e : Env) (H H' : zaf) : (zb2 o).f C e H = (zb2 o).f C e H' := by
 cases o <;> first | (simp [zqh] at h; done) | rfl | skip
 case makeFunc fn a b => cases fn <;> rfl
theorem z02 {e e' : Env} (h : ∀ x, ev x e = ev x e') (o : Op) (C : Ctx) (H : zaf) : (zb2 o).f C e H = (zb2 o).f C e' H := by
 have hs : ∀ l, evs l e = evs l e' := fun l => by unfold evs; rw [funext h]
 have hp : ∀ l, evp l e = evp l e' := fun l => by grind [evp]
 have ho : ∀ x, evo x e = evo x e' := fun x => by cases x <;> simp [evo, h]
 cases o <;> first | rfl | skip
 case move x => exact h x
 case assign x => exact h x
 case pick c a b => simp only [zb2, zzca, h]
 case load t a => simp only [zb2, zr5, h]
 case nilCheck x => simp only [zb2, zzhi, h]
 case binOp op t x y z => simp only [zb2, zzcl, h]
 case unOp op t x => simp only [zb2, lUn, h]
 case convert s d x => simp only [zb2, zma, h]
 case makeInterface t x => simp only [zb2, zp0, h]
 case makeFunc fn a b => cases fn <;> simp only [zb2, zlh, z66, zw2, hs]
 case slice t x lo hi mx => cases mx <;> simp only [zb2, znz, zn0, zw2, h, ho]
 case fieldAddr s x f => simp only [zb2, zd0, h]
 case field t x f => simp only [zb2, zp2, h]
 case indexAddr t x i => simp only [zb2, zdz, h]
 case index t x i => simp only [zb2, zlg, h]
 case extract t i => simp only [zb2, zf1, h]
 case build t ps => simp only [zb2, zml, hp]
 case typeAssert x a u ok => simp only [zb2, zh7, h]
 case lookup t x i ok => simp only [zb2, zh6, h]
 case call c =>
  have h2 : two c e = two c e' := by unfold two; split <;> simp only [h]
  simp only [zb2, zzmy]
  cases c.callee with
  | builtin b => cases b <;> simp only [zgj, zqx, zw2, z2q, zzcf, zzcd, h, h2]
  | _ => rfl
theorem z5l {e e' : Env} (h : ∀ t, zzfc t e = zzfc t e') (x : Operand) : ev x e = ev x e' := by
 cases x with
 | tmp t => exact h t
 | _ => rfl
theorem zrx {tm tm' old : Tm} {olds : List (Nat × List Nat)} {i : Nat} {o : Oper} (h : ∀ t ∈ zb9 o.op, t ∉ zda i olds -> tm'.get t = tm.get t) (C : Ctx) (H : zaf) :
  (zb2 o.op).f C (znr tm' old olds i o) H = (zb2 o.op).f C (znr tm old olds i o) H := by
 grind [z02, z5l, znr, zzfc, zfy]
section
variable {P : Program} {C : Ctx} {μ : Mu} {H H' : zaf} {all : Array Oper} {olds : List (Nat × List Nat)} {anc : Tr Nat} {n : Nat} {old tm tm' : Tm} {D : Nat} {S : Nat -> Bool} {order : List Nat} {tmps : Array Value} {ds : List Deferred}
structure zye (C : Ctx) (H : zaf) (all : Array Oper) (olds : List (Nat × List Nat)) (n : Nat) (old tm : Tm) (i : Nat) (o : Oper) (w : Bool) (v : zab) : Prop where
 op : all[i]? = some o
 want : zbi o.guard all tm = some w
 val : if w = true then (zb2 o.op).f C (znr tm old olds i o) H = some v else v = zbj
 put : ∀ d, o.dst = some d -> d < n -> tm.get d = some v
theorem zye.pure {i : Nat} {o : Oper} {w : Bool} {v : zab} (h : zye C H all olds n old tm i o w v) (hp : zqh o.op = true) (H' : zaf) : zye C H' all olds n old tm i o w v :=
 ⟨h.op, h.want, by have := h.val; grind [z3p], h.put⟩
theorem znl (R : ztf all olds anc) (hD : zmt all (tb D)) {i k : Nat} {o u : Oper} (ho : all[i]? = some o) (hi : tb D i = true \/ (i = k /\ ∀ j, ziq o j -> tb D j = true)) (hu : all[k]? = some u) (hk : tb D k = false) :
  (∀ t ∈ zb9 o.op, t ∉ zda i olds -> u.dst ≠ some t) /\ (∀ j w, o.guard = some (j, w) -> ∀ g, all[j]? = some g -> ∀ d, g.dst = some d -> u.dst ≠ some d) := by
 have up : ∀ j, tb (zpf anc i) j = true -> tb D j = true := fun j hj => R.up hD ho (by
  rcases hi with hi | ⟨_, hi⟩
  ·exact fun j hj => hD i o ho hi j hj
  omega) hj
 constructor
 ·intro t ht hto e
  have := R.name i o k u t ho hu e ht
  simp_all
 ·intro j w hg g hgj d hd e
  have h1 := R.guard i o ho
  rw [hg] at h1; have h2 := up j h1
  have := R.one j k g u d hgj hu hd e
  simp_all
theorem zgu {o : Oper} (h : ∀ j w, o.guard = some (j, w) -> ∀ g, all[j]? = some g -> ∀ d, g.dst = some d -> tm'.get d = tm.get d) : zbi o.guard all tm' = zbi o.guard all tm := by
 unfold zbi z8q
 cases hg : o.guard with
 | none => rfl
 | some jw =>
  obtain ⟨j, w⟩ := jw
  simp only [zyk, zbs]
  cases hj : all.toList[j]? with
  | none => rfl
  | some g =>
   simp only [zad]
   cases hd : g.dst with
   | none => rfl
   | some d => simp only [zad]; rw [h j w hg g (by simp_all) d hd]
theorem zye.keep (R : ztf all olds anc) (hD : zmt all (tb D)) {i k : Nat} {o u : Oper} {w : Bool} {v x : zab} (h : zye C H all olds n old tm i o w v) (hi : tb D i = true) (hu : all[k]? = some u) (hk : tb D k = false) :
  zye C H all olds n old (putA n tm u.dst x) i o w v := by
 obtain ⟨r1, r2⟩ := znl R hD h.op (.inl hi) hu hk
 refine ⟨h.op, ?_, ?_, ?_⟩
 ·rw [zgu (tm := tm) fun j w hg g hj d hd => by rw [zby, yaa fun e => r2 j w hg g hj d hd e.1]]
  exact h.want
 ·have := h.val
  grind [zrx, zby]
 ·intro d hd hn
  rw [zby, yaa]
  ·exact h.put d hd hn
  ·rintro ⟨e, _⟩
   have := R.one i k o u d h.op hu hd e
   simp_all
theorem zye.grow {i : Nat} {o : Oper} {w : Bool} {v : zab} (h : zye C H all olds n old tm i o w v) (hle : HM.HLe H H') : zye C H' all olds n old tm i o w v :=
 ⟨h.op, h.want, by have := h.val; grind [HM.alight_mono], h.put⟩
structure zth (C : Ctx) (μ : Mu) (dp : Nat) (all : Array Oper) (olds : List (Nat × List Nat)) (n : Nat) (old tm : Tm) (i : Nat) (o : Oper) (v : zab) : Prop where
 op : all[i]? = some o
 flo : ze5 o.op = true
 want : zbi o.guard all tm = some true
 val : ∃ H0 l, (aop o.op).f C (znr tm old olds i o) H0 = .val v (za7 H0 l none) /\ μ.pd H0.next = some (.cells (Tr.ofList l) (zbf l) none, dp, i)
 put : ∀ d, o.dst = some d -> d < n -> tm.get d = some v
 lo : zzg7 C o.op = none
structure Mu.ln (dp : Nat) (μ ν : Mu) : Prop where
 f : ∀ a i, μ a = some i -> ν a = some i
 pd : ∀ a x j, μ.pd a = some (x, dp, j) -> ν.pd a = some (x, dp, j)
instance {dp : Nat} {μ ν : Mu} : CoeOut (μ.ln dp ν) (μ.lw ν) := ⟨Mu.ln.f⟩
theorem Mu.le.ln {μ ν : Mu} (h : μ.le ν) (dp : Nat) : μ.ln dp ν := ⟨h.f, fun a x j k => by rw [h.pd]; exact k⟩
instance {dp : Nat} {μ ν : Mu} : Coe (μ.le ν) (μ.ln dp ν) := ⟨fun h => h.ln dp⟩
theorem Mu.ln_refl (μ : Mu) (dp : Nat) : μ.ln dp μ := ⟨fun _ _ h => h, fun _ _ _ h => h⟩
theorem Mu.ln_trans {dp : Nat} {a b c : Mu} (h : a.ln dp b) (k : b.ln dp c) : a.ln dp c := ⟨fun x i hx => k.f x i (h.f x i hx), fun x y j hx => k.pd x y j (h.pd x y j hx)⟩
theorem zth.mono {ν : Mu} {dp : Nat} (h : μ.ln dp ν) {i : Nat} {o : Oper} {v : zab} (p : zth C μ dp all olds n old tm i o v) : zth C ν dp all olds n old tm i o v := by
 obtain ⟨H0, l, h1, h2⟩ := p.val
 exact ⟨p.op, p.flo, p.want, ⟨H0, l, h1, h.pd _ _ _ h2⟩, p.put, p.lo⟩
theorem zmn {tm tm' old : Tm} {i : Nat} {o : Oper} (hf : ze5 o.op = true) (h : ∀ t ∈ zb9 o.op, t ∉ zda i olds -> tm'.get t = tm.get t) (C : Ctx) (H : zaf) :
  (aop o.op).f C (znr tm' old olds i o) H = (aop o.op).f C (znr tm old olds i o) H := by
 grind [z2x, z5l, znr, zzfc, zfy]
theorem zth.keep {dp : Nat} (R : ztf all olds anc) (hD : zmt all (tb D)) {i k : Nat} {o u : Oper} {v x : zab} (h : zth C μ dp all olds n old tm i o v) (hi : tb D i = true) (hu : all[k]? = some u) (hk : tb D k = false) :
  zth C μ dp all olds n old (putA n tm u.dst x) i o v := by
 obtain ⟨r1, r2⟩ := znl R hD h.op (.inl hi) hu hk
 obtain ⟨H0, l, h1, h2⟩ := h.val
 refine ⟨h.op, h.flo, ?_, ⟨H0, l, ?_, h2⟩, ?_, h.lo⟩
 ·rw [zgu (tm := tm) fun j w hg g hj d hd => by rw [zby, yaa fun e => r2 j w hg g hj d hd e.1]]
  exact h.want
 ·rw [zmn (tm := tm) h.flo fun t ht hto => by rw [zby, yaa fun e => r1 t ht hto e.1]]
  exact h1
 ·intro d hd hn
  rw [zby, yaa]
  ·exact h.put d hd hn
  ·rintro ⟨e, _⟩
   have := R.one i k o u d h.op hu hd e
   simp_all
theorem zth.fresh {dp : Nat} (R : ztf all olds anc) (hD : zmt all (tb D)) {i : Nat} {o : Oper} {v : zab} (ho : all[i]? = some o) (hp : ∀ j, ziq o j -> tb D j = true) (hi : tb D i = false)
  (hf : ze5 o.op = true) (hlo : zzg7 C o.op = none) (hw : zbi o.guard all tm = some true) (hv : ∃ H0 l, (aop o.op).f C (znr tm old olds i o) H0 = .val v (za7 H0 l none) /\ μ.pd H0.next = some (.cells (Tr.ofList l) (zbf l) none, dp, i)) :
  zth C μ dp all olds n old (putA n tm o.dst v) i o v := by
 obtain ⟨r1, r2⟩ := znl R hD ho (.inr ⟨rfl, hp⟩) ho hi
 obtain ⟨H0, l, h1, h2⟩ := hv
 refine ⟨ho, hf, ?_, ⟨H0, l, ?_, h2⟩, ?_, hlo⟩
 all_goals grind [zgu, zby, zmn]
theorem zye.fresh (R : ztf all olds anc) (hD : zmt all (tb D)) {i : Nat} {o : Oper} {w : Bool} {v : zab} (ho : all[i]? = some o) (hp : ∀ j, ziq o j -> tb D j = true) (hi : tb D i = false)
  (hw : zbi o.guard all tm = some w) (hv : if w = true then (zb2 o.op).f C (znr tm old olds i o) H = some v else v = zbj) :
  zye C H all olds n old (putA n tm o.dst v) i o w v := by
 obtain ⟨r1, r2⟩ := znl R hD ho (.inr ⟨rfl, hp⟩) ho hi
 refine ⟨ho, ?_, ?_, ?_⟩
 all_goals grind [zgu, zby, zrx]
theorem zce.light {i : Nat} {o : Oper} {v : zab} {D' : Nat} (R : zce μ all olds anc n old tm D S order tmps) (ho : all[i]? = some o) (hi : tb D i = false) (hp : ∀ j, ziq o j -> tb D j = true) (hD : ∀ k, tb D' k = (tb D k || k == i)) :
  zce μ all olds anc n old (putA n tm o.dst v) D' S order tmps := by
 refine ⟨R.reg, R.sched, fun k hk => by rw [hD, R.sub k hk]; rfl, R.closed, ?_, R.size, ?_, R.past, ?_, ?_⟩
 ·intro k u hu hk j hj
  rw [hD] at hk ⊢
  simp only [ycq, beq_iff_eq] at hk ⊢
  rcases hk with hk | rfl
  ·exact .inl (R.dclosed k u hu hk j hj)
  simp_all
 ·intro k u d x hu hud hk hd hx
  rw [zby, yaa] at hx
  ·exact R.now k u d x hu hud hk hd hx
  ·rintro ⟨e, _⟩
   have := R.reg.one k i u o d hu ho hud e
   have hk' := R.sub k hk
   simp_all
 ·intro d hd hw
  rw [zby, yaa]
  ·refine R.keep d hd fun k u hu hud => ?_
   simp_all
  grind
 ·intro d x hd hx
  refine R.big d x hd ?_
  grind [zby]
theorem zce.mono {ν : Mu} (hm : μ.lw ν) (R : zce μ all olds anc n old tm D S order tmps) : zce ν all olds anc n old tm D S order tmps :=
 ⟨R.reg, R.sched, R.sub, R.closed, R.dclosed, R.size, fun i o d v a b c e f => (R.now i o d v a b c e f).mono hm _ _, fun d v a b c => (R.past d v a b c).mono hm _ _, R.keep, fun d v a b => (R.big d v a b).mono hm _ _⟩
end
end Go.Am
namespace Go.Am
open Go Go.RowKit
section steps
variable {P : Program} {fr b : Frame} {a : Act} {k : List Item} {cs : List Frame} {w w' : World} {s : Sem Next} {ops : Array Oper}
theorem z3n {v : Value} (hr : s.run P w = .ok (.value v) w') :
  (stepG.apply P true fr cs none s w).bare = .go { frame := fr.finish v, callers := cs, status := .running, dying := none } w' := by
 simp_all [stepG.apply]
theorem z76 (hr : s.run P w = .ok .skip w') :
  (stepG.apply P true fr cs none s w).bare = .go { frame := fr.finish undef, callers := cs, status := .running, dying := none } w' := by
 simp_all [stepG.apply]
theorem zmy {i : Nat} {rest : List Nat} {o : Oper} {v : Value} (ho : ops[i]? = some o) (hw : Region.wanted o (yielded ops a.tmps) = true)
  (hr : (o.semAt b.roundOf a.eval).run P w = .ok (.value v) w') :
  step P (lone (b.atR a (.inRegion ops (i :: rest) :: k)) cs w) = .next (lone (b.atR (a.put o.dst v) (.inRegion ops rest :: k)) cs w') := by
 have := Frame.finish_atR b a ops i rest k v
 grind [step_lone_go, stepGR_op, z3n]
theorem zv8 {i : Nat} {rest : List Nat} {o : Oper} (ho : ops[i]? = some o) (hw : Region.wanted o (yielded ops a.tmps) = true)
  (hr : (o.semAt b.roundOf a.eval).run P w = .ok .skip w') :
  step P (lone (b.atR a (.inRegion ops (i :: rest) :: k)) cs w) = .next (lone (b.atR (a.put o.dst undef) (.inRegion ops rest :: k)) cs w') := by
 have := Frame.finish_atR b a ops i rest k undef
 grind [step_lone_go, stepGR_op, z76]
theorem zh0 {i : Nat} {rest : List Nat} {o : Oper} (ho : ops[i]? = some o) (hw : Region.wanted o (yielded ops a.tmps) = false) :
  step P (lone (b.atR a (.inRegion ops (i :: rest) :: k)) cs w) = .next (lone (b.atR (a.put o.dst undef) (.inRegion ops rest :: k)) cs w) := by
 grind [stepR_op_skip]
end steps
mutual
theorem z1x : ∀ (d : Nat) (a b : zab), same d a b = true -> a = b
 | d, a, b, h => by
  cases a <;> cases b <;> cases d <;> simp [same, zoq, zf2, zp4, zf3, Nat.beq_eq] at h ⊢
  all_goals first
   | exact h
   | (obtain ⟨h1, h2⟩ := h; exact ⟨h1, h2⟩)
   | exact zwh _ _ _ h
   | omega
theorem zwh : ∀ (d : Nat) (a b : List zab), same.sames d a b = true -> a = b
 | d, [], [], _ => rfl
 | d, a :: x, b :: y, h => by
  simp only [same.sames, ybb] at h; rw [z1x d a b h.1, zwh d x y h.2]
 | d, [], b :: y, h => by simp [same.sames] at h
 | d, a :: x, [], h => by simp [same.sames] at h
end
section
variable {P : Program} {C : Ctx} {B N : Nat} {μ : Mu} {H H' : zaf} {w : World} {all : Array Oper} {olds : List (Nat × List Nat)} {anc : Tr Nat} {n : Nat} {old tm tm' : Tm} {D D' : Nat} {S : Nat -> Bool} {order : List Nat} {tmps : Array Value} {ds : List Deferred} {dp : Nat}
def zb5 (C : Ctx) (μ : Mu) (dp : Nat) (H : zaf) (all : Array Oper) (olds : List (Nat × List Nat)) (n : Nat) (old tm : Tm) (D : Nat) (S : Nat -> Bool) : Prop :=
 ∀ i, tb D i = true -> S i = false -> (∃ o w v, zye C H all olds n old tm i o w v) \/ ∃ o v, zth C μ dp all olds n old tm i o v
theorem zlz : ∀ (l : List Nat) (tm : Tm) (D : Nat), zf0 C H all n old olds l tm = some tm' -> zd9 all.toList l D = some D' -> zce μ all olds anc n old tm D S order tmps -> zb5 C μ dp H all olds n old tm D S →
  zce μ all olds anc n old tm' D' S order tmps /\ zb5 C μ dp H all olds n old tm' D' S := by
 intro l; induction l with
 | nil => intro tm D h hD R hp; cases h; cases hD; simp_all
 | cons i l ih =>
  intro tm D h hD R hp; unfold zf0 at h; unfold zd9 at hD; rw [zac] at hD; obtain ⟨D1, h1, hD⟩ := hD
  simp only [zac, zbs] at h; obtain ⟨o, ho, wn, hw, v, hv, h⟩ := h
  obtain ⟨o', ho', hi, hb, hD1⟩ := zjn h1
  have ho2 : all[i]? = some o := by simp_all
  rw [ho2] at ho'; cases ho'
  have hval : if wn = true then (zb2 o.op).f C (znr tm old olds i o) H = some v else v = zbj := by
   cases wn with
   | true => rw [yab rfl]; exact hv
   | false => simp_all
  refine ih _ _ h hD (R.light ho2 hi hb hD1) fun j hj hSj => ?_
  rw [hD1] at hj; simp only [ycq, beq_iff_eq] at hj; rcases hj with hj | rfl
  ·rcases hp j hj hSj with ⟨u, wu, vu, pu⟩ | ⟨u, vu, pu⟩
   ·exact .inl ⟨u, wu, vu, pu.keep R.reg R.dclosed hj ho2 hi⟩
   ·exact .inr ⟨u, vu, pu.keep R.reg R.dclosed hj ho2 hi⟩
  ·exact .inl ⟨o, wn, v, zye.fresh R.reg R.dclosed ho2 hb hi hw hval⟩
structure Weak (all : Array Oper) (n : Nat) (tm : Tm) (i : Nat) (o : Oper) (w : Bool) (v : zab) : Prop where
 op : all[i]? = some o
 want : zbi o.guard all tm = some w
 val : w = false -> v = zbj
 put : ∀ d, o.dst = some d -> d < n -> tm.get d = some v
theorem zze0 : ∀ (l : List Nat), zp9 C H all old olds tm l = true -> ∀ i ∈ l, ∀ o w v, Weak all n tm i o w v -> ∃ v, zye C H all olds n old tm i o w v := by
 intro l; induction l with
 | nil => simp_all
 | cons j l ih =>
  intro h i hi o w v W; unfold zp9 at h; split at h
  case h_2 => cases h
  rename_i hx; rcases ybs.1 hi with rfl | hi
  ·simp only [zac, zbs] at hx
   obtain ⟨o', ho', d, hd, wn, hw, hx⟩ := hx
   have ho2 : all[i]? = some o' := by simp_all
   rw [W.op] at ho2; cases ho2; rw [W.want] at hw; cases hw
   cases w with
   | false => exact ⟨v, W.op, W.want, by rw [yaa (by simp)]; exact W.val rfl, W.put⟩
   | true =>
    simp only [cond_true, zac] at hx; obtain ⟨v1, hv1, u, hu, hs⟩ := hx
    have e := z1x _ _ _ (yci hs)
    refine ⟨v1, W.op, W.want, by rw [yab rfl]; exact hv1, fun d' hd' hn => ?_⟩
    rw [hd] at hd'; cases hd'
    rw [hu, e]
  grind
end
end Go.Am
namespace Go.Am
open Go Go.RowKit
section
variable {P : Program} {C : Ctx} {B N : Nat} {μ : Mu} {H H' : zaf} {w : World} {all : Array Oper} {olds : List (Nat × List Nat)} {anc : Tr Nat} {n : Nat} {old tm tm' : Tm} {D D' : Nat} {S : Nat -> Bool} {order : List Nat} {tmps : Array Value} {ds : List Deferred} {dp : Nat}
variable {b : Frame} {k : List Item} {cs : List Frame}
structure zt7 (B N dp : Nat) (μ : Mu) (H : zaf) (w : World) (μ' : Mu) (w' : World) : Prop where
 heap : zbp B N μ' H w'
 le : μ.lw μ'
 pd : ∀ d, d ≠ dp -> μ.ln d μ'
 below : Below N w w'
theorem zt7.refl (hH : zbp B N μ H w) : zt7 B N dp μ H w μ w := ⟨hH, fun _ _ h => h, fun d _ => μ.ln_refl d, Below.refl _ _⟩
theorem zt7.trans {μ1 μ2 : Mu} {w1 w2 : World} (h : zt7 B N dp μ H w μ1 w1) (k : zt7 B N dp μ1 H w1 μ2 w2) : zt7 B N dp μ H w μ2 w2 :=
 ⟨k.heap, fun a i e => k.le a i (h.le a i e), fun d hd => Mu.ln_trans (h.pd d hd) (k.pd d hd), h.below.trans k.below⟩
theorem zzj (hT : zdh P C) (hH : zbp B N μ H w) {i : Nat} (R : zce μ all olds anc n old tm D S (i :: order) tmps) (hp : zb5 C μ dp H all olds n old tm D S) (hi : tb D i = true) :
  ∃ S' tmps' μ' w', step P (lone (b.atR ⟨tmps, ds⟩ (.inRegion all (i :: order) :: k)) cs w) = .next (lone (b.atR ⟨tmps', ds⟩ (.inRegion all order :: k)) cs w') /\ zt7 B N dp μ H w μ' w' ∧
   zce μ' all olds anc n old tm D S' order tmps' /\ zb5 C μ' dp H all olds n old tm D S' /\ ∀ k, S k = true -> S' k = true := by
 obtain ⟨o, ho, hS, hb, _⟩ := R.sched
 have hDD : ∀ k, tb D k = (tb D k || k == i) := by
  simp_all
 have ds' : ∀ v', Act.put ⟨tmps, ds⟩ o.dst v' = ⟨(Act.put ⟨tmps, ds⟩ o.dst v').tmps, ds⟩ := by intro v'; unfold Act.put; cases o.dst <;> rfl
 rcases hp i hi hS with ⟨o', wn, v, pd⟩ | ⟨o', v, pd⟩
 ·have := pd.op
  rw [ho] at this; cases this
  have hw := R.wanted ho hb pd.want
  have rest : ∀ v', zaq μ v v' -> zce μ all olds anc n old tm D (fun k => S k || k == i) order (Act.put ⟨tmps, ds⟩ o.dst v').tmps /\ zb5 C μ dp H all olds n old tm D (fun k => S k || k == i) := by
   intro v' hv; refine ⟨R.did ho hDD pd.put (fun _ _ => rfl) hv, fun j hj hSj => hp j hj ?_⟩
   grind
  cases wn with
  | false =>
   have hv := pd.val
   rw [yaa (by simp)] at hv
   subst hv; obtain ⟨r1, r2⟩ := rest undef zlt
   refine ⟨_, _, μ, w, ?_, .refl hH, r1, r2, fun k hk => by grind⟩
   grind [zh0]
  | true =>
   have hv := pd.val
   rw [yab rfl] at hv; obtain ⟨v', h1, h2⟩ := zzez hT hH (R.erel (ds := ds) hH.glob ho hS hb) hv
   obtain ⟨r1, r2⟩ := rest v' h2
   refine ⟨_, _, μ, w, ?_, .refl hH, r1, r2, fun k hk => by grind⟩
   rw [<- ds']; refine zmy (a := ⟨tmps, ds⟩) ho hw ?_
   rw [Oper.semAt_eq]
   ·exact h1
   ·intro c e
    rw [e] at hv
    cases hv
 ·have := pd.op
  rw [ho] at this; cases this
  have hw := R.wanted ho hb pd.want
  obtain ⟨H0, l, h1, h2⟩ := pd.val
  obtain ⟨l', vs, v', elem, e1, run, hl, hv⟩ := zzhz (P := P) (w := w) hT (R.erel (ds := ds) hH.glob ho hS hb) o pd.flo pd.lo h1
  have e2 : za7 H0 l none = za7 H0 l' none := e1
  have p1 := (hH.pnd _ _ _ h2).1
  have lg : ∀ c, (μ.land H0.next ⟨w.heap.size, true, 0, 0, false⟩) c = if c = H0.next then some ⟨w.heap.size, true, 0, 0, false⟩ else μ c := fun _ => rfl
  have hle : μ.lw (μ.land H0.next ⟨w.heap.size, true, 0, 0, false⟩) := fun c j hj => by
   grind
  have hlp : ∀ c x d j, (d ≠ dp \/ j ≠ i) -> μ.pd c = some (x, d, j) -> (μ.land H0.next ⟨w.heap.size, true, 0, 0, false⟩).pd c = some (x, d, j) := by
   intro c x d j hne hc; show (if c = H0.next then none else μ.pd c) = _
   all_goals grind
  have hblk : (zav.cells (Tr.ofList l) (zbf l) none) = .cells (Tr.ofList l') (zbf l') none := by
   have h3 : (za7 H0 l none).t.get H0.next = (za7 H0 l' none).t.get H0.next := by rw [e2]
   have hg : ∀ m, (za7 H0 m none).t.get H0.next = some (.cells (Tr.ofList m) (zbf m) none) := fun m => by
    show (H0.t.set H0.next _).get H0.next = _
    rw [Tr.get_set, yab rfl]
   grind
  have hH' : zbp B N (μ.land H0.next ⟨w.heap.size, true, 0, 0, false⟩) H (w.alloc (.cells vs elem)) := by
   refine hH.late h2 rfl rfl ?_
   rw [hblk]; have := (zbw.mono hle _ _ hl).rel_one (i := ⟨w.heap.size, true, 0, 0, false⟩) rfl (elem := elem)
   rwa [Array.toArray_toList] at this
  have hvr := hv (μ.land H0.next ⟨w.heap.size, true, 0, 0, false⟩) ⟨w.heap.size, true, 0, 0, false⟩ (by rw [lg, yab rfl]) rfl rfl
  refine ⟨fun k => S k || k == i, (Act.put ⟨tmps, ds⟩ o.dst v').tmps, μ.land H0.next ⟨w.heap.size, true, 0, 0, false⟩, w.alloc (.cells vs elem), ?_, ⟨hH', hle, fun d hd => ⟨hle, fun c x j hc => hlp c x d j (.inl hd) hc⟩, zcn hH.size _⟩,
   (R.mono hle).did ho hDD pd.put (fun _ _ => rfl) hvr, fun j hj hSj => ?_, fun k hk => by grind⟩
  ·rw [<- ds']
   refine zmy (a := ⟨tmps, ds⟩) ho hw ?_
   rw [Oper.semAt_eq]
   ·exact run
   ·intro c e
    have := pd.flo
    rw [e] at this
    cases this
  ·simp only [yal, beq_eq_false_iff_ne] at hSj
   rcases hp j hj hSj.1 with h | ⟨u, vu, pu⟩
   ·grind
   ·refine .inr ⟨u, vu, pu.op, pu.flo, pu.want, ?_, pu.put, pu.lo⟩
    obtain ⟨H1, m, g1, g2⟩ := pu.val
    grind
theorem z4p (hT : zdh P C) (hH : zbp B N μ H w) {i : Nat} (R : zce μ all olds anc n old tm D S (i :: order) tmps) (hp : zb5 C μ dp H all olds n old tm D S) (hi : tb D i = true) :
  ∃ S' tmps' μ' w', step P (lone (b.atR ⟨tmps, ds⟩ (.inRegion all (i :: order) :: k)) cs w) = .next (lone (b.atR ⟨tmps', ds⟩ (.inRegion all order :: k)) cs w') /\ zt7 B N dp μ H w μ' w' ∧
   zce μ' all olds anc n old tm D S' order tmps' /\ zb5 C μ' dp H all olds n old tm D S' := by
 obtain ⟨S', tmps', μ', w', h1, h2, h3, h4, _⟩ := zzj (b := b) (k := k) (cs := cs) (ds := ds) hT hH R hp hi
 grind
theorem reach (hT : zdh P C) {st : zc7} {r : List zc7} (hst : zcd all.toList anc (st :: r) D = true) (hlt : st.heavy <= all.size) : ∀ (order : List Nat) (S : Nat -> Bool) (tmps : Array Value) (μ : Mu) (w : World), zbp B N μ H w →
  zce μ all olds anc n old tm D S order tmps -> zb5 C μ dp H all olds n old tm D S →
  ∃ S' order' tmps' μ' w', Steps P (lone (b.atR ⟨tmps, ds⟩ (.inRegion all order :: k)) cs w) (lone (b.atR ⟨tmps', ds⟩ (.inRegion all (st.heavy :: order') :: k)) cs w') /\ zt7 B N dp μ H w μ' w' ∧
   zce μ' all olds anc n old tm D S' (st.heavy :: order') tmps' /\ zb5 C μ' dp H all olds n old tm D S' := by
 obtain ⟨only, _, D1, D2, h1, _⟩ := zhi hst hlt
 obtain ⟨oh, hoh, hh, hbh, _⟩ := zjn h1
 intro order; induction order with
 | nil =>
  intro S tmps μ w _ R hp; have := R.sub _ (R.sched st.heavy (ybe.1 hoh).1)
  simp_all
 | cons i order ih =>
  intro S tmps μ w hH R hp
  cases hi : tb D i with
  | true =>
   obtain ⟨S', tmps', μ1, w1, s1, g1, r1, p1⟩ := z4p (b := b) (k := k) (cs := cs) (ds := ds) hT hH R hp hi
   obtain ⟨S2, order', tmps2, μ2, w2, s2, g2, r2⟩ := ih S' tmps' μ1 w1 g1.heap r1 p1
   exact ⟨S2, order', tmps2, μ2, w2, .head s1 s2, g1.trans g2, r2⟩
  | false =>
   obtain ⟨o, ho, hS, hb, _⟩ := R.sched
   have := only i o ho hi fun j hj => R.sub j (hb j hj)
   subst this; exact ⟨S, order, tmps, μ, w, .refl _ _, .refl hH, R, hp⟩
theorem regEnd (hT : zdh P C) (hst : zcd all.toList anc [] D = true) : ∀ (order : List Nat) (S : Nat -> Bool) (tmps : Array Value) (μ : Mu) (w : World), zbp B N μ H w →
  zce μ all olds anc n old tm D S order tmps -> zb5 C μ dp H all olds n old tm D S →
  ∃ tmps' μ' w', Steps P (lone (b.atR ⟨tmps, ds⟩ (.inRegion all order :: k)) cs w) (lone (b.atR ⟨tmps', ds⟩ k) cs w') /\ zt7 B N dp μ H w μ' w' /\ zc3 μ' n tm tmps' := by
 have full := zzp hst
 intro order; induction order with
 | nil =>
  intro S tmps μ w hH R hp; refine ⟨tmps, μ, w, .one stepR_region_end, .refl hH, R.size, fun t v hv => ?_⟩
  by_cases hn : t < n
  ·by_cases hw : ∃ (j : Nat) (u : Oper), all[j]? = some u /\ u.dst = some t
   ·obtain ⟨j, u, hu, hud⟩ := hw
    exact R.now j u t v hu hud (R.sched j (ybe.1 hu).1) hn hv
   ·have k := R.keep t hn fun i o h1 h2 => absurd ⟨i, o, h1, h2⟩ hw
    exact R.past t v hn (fun i o h1 h2 => absurd ⟨i, o, h1, h2⟩ hw) (by simp_all)
  ·rw [zl2 (by rw [R.size]; omega)]
   exact R.big t v (by omega) (.inl hv)
 | cons i order ih =>
  intro S tmps μ w hH R hp; obtain ⟨o, ho, _⟩ := R.sched
  obtain ⟨S', tmps', μ1, w1, s1, g1, r1, p1⟩ := z4p (b := b) (k := k) (cs := cs) (ds := ds) hT hH R hp (full i (ybe.1 ho).1)
  obtain ⟨tmps2, μ2, w2, s2, g2, r2⟩ := ih S' tmps' μ1 w1 g1.heap r1 p1
  exact ⟨tmps2, μ2, w2, .head s1 s2, g1.trans g2, r2⟩
theorem zzgt (hM : P.follows .mixedOrders = true) {anc : Tr Nat} (hR : ztf all olds anc) (ht : zc3 μ n old tmps) (t : Nat) :
  zce μ all olds anc n old old 0 (fun _ => false) (Region.schedule (P.follows .mixedOrders) all t) tmps /\ zb5 C μ dp H all olds n old old 0 (fun _ => false) := by
 refine ⟨⟨hR, ?_, fun i h => (by cases h), fun i o _ h => (by cases h), fun i o _ h => (by grind [zv3]), ht.1, fun i o d v _ _ h => (by cases h), fun d v _ _ h => ht.2 d v h, fun _ _ _ => rfl, fun d v hd h => ?_⟩, fun i h => (by grind [zv3])⟩
 ·rw [hM]
  unfold Region.schedule; simp only [Bool.true_or, if_true]; have := zzgl hR.back all.size t (Array.replicate all.size false) (by simp) (by
   grind [List.countP_le_length])
  have e : (fun i => (Array.replicate all.size false).getD i false) = fun _ => false := by
   funext i
   simp only [ycx, Array.getElem?_replicate]; split <;> rfl
  rw [e] at this; exact this
 ·have h' : old.get d = some v := h.elim id id
  have := ht.2 d v h'
  rw [zl2 (by rw [ht.1]; exact hd)] at this
  exact this
def zjf (C : Ctx) (μ : Mu) (dp : Nat) (all : Array Oper) (olds : List (Nat × List Nat)) (n : Nat) (old tm : Tm) (D : Nat) (S : Nat -> Bool) (again : List Nat) : Prop :=
 ∀ i, tb D i = true -> S i = false -> (∃ o w v, (∀ H, zye C H all olds n old tm i o w v) \/ (i ∈ again /\ Weak all n tm i o w v)) \/ ∃ o v, zth C μ dp all olds n old tm i o v
theorem zye.float {i : Nat} {o : Oper} {w : Bool} {v : zab} (h : zye C H all olds n old tm i o w v) (hf : ze5 o.op = true) (H' : zaf) : zye C H' all olds n old tm i o w v := by
 refine ⟨h.op, h.want, ?_, h.put⟩
 have := h.val
 cases w with
 | false => exact this
 | true =>
  rw [yab rfl] at this; exfalso
  obtain ⟨dst, op, type, pos, after, guard⟩ := o
  cases op <;> first | (simp [ze5] at hf; done) | cases this
theorem z8p {again : List Nat} (hw : zjf C μ dp all olds n old tm D S again) (ha : zp9 C H all old olds tm again = true) : zb5 C μ dp H all olds n old tm D S := by
 intro i hi hS; rcases hw i hi hS with ⟨o, w, v, h | ⟨h1, h2⟩⟩ | h
 ·exact .inl ⟨o, w, v, h H⟩
 ·obtain ⟨v, h⟩ := zze0 (C := C) (H := H) (olds := olds) (old := old) again ha i h1 o w v h2
  grind
 simp_all
end
end Go.Am
namespace Go.Am
open Go Go.RowKit
section
variable {P : Program} {C : Ctx} {B N : Nat} {μ : Mu} {H H' : zaf} {w : World} {all : Array Oper} {olds : List (Nat × List Nat)} {anc : Tr Nat} {n : Nat} {old tm tm' : Tm} {D D' : Nat} {S : Nat -> Bool} {order : List Nat} {tmps : Array Value} {ds : List Deferred} {dp : Nat}
theorem Weak.keep (R : ztf all olds anc) (hD : zmt all (tb D)) {i k : Nat} {o u : Oper} {w : Bool} {v x : zab} (h : Weak all n tm i o w v) (hi : tb D i = true) (hu : all[k]? = some u) (hk : tb D k = false) :
  Weak all n (putA n tm u.dst x) i o w v := by
 obtain ⟨_, r2⟩ := znl R hD h.op (.inl hi) hu hk
 refine ⟨h.op, ?_, h.val, ?_⟩
 ·rw [zgu (tm := tm) fun j w hg g hj d hd => by rw [zby, yaa fun e => r2 j w hg g hj d hd e.1]]
  exact h.want
 ·intro d hd hn
  rw [zby, yaa]
  ·exact h.put d hd hn
  ·rintro ⟨e, _⟩
   have := R.one i k o u d h.op hu hd e
   simp_all
theorem toWeak {st : zc7} {r : List zc7} (hst : zcd all.toList anc (st :: r) D = true) (hlt : st.heavy <= all.size) (R : zce μ all olds anc n old tm D S (st.heavy :: order) tmps) (hp : zb5 C μ dp H all olds n old tm D S) :
  zjf C μ dp all olds n old tm D S st.again := by
 obtain ⟨_, ag, _⟩ := zhi hst hlt
 intro i hDi hSi; rcases hp i hDi hSi with ⟨u, wu, vu, pu⟩ | h
 rotate_left
 ·grind
 refine .inl ⟨u, wu, vu, ?_⟩
 rcases ag i u pu.op hDi with h | h | h | h
 ·obtain ⟨o, ho, _, hb, _⟩ := R.sched
  have := R.reg.up R.closed ho hb h
  simp_all
 ·exact .inl fun H => pu.pure h H
 ·exact .inl fun H => pu.float h H
 ·exact .inr ⟨h, pu.op, pu.want, fun e => by have := pu.val; simp_all, pu.put⟩
theorem zzfm {h : Nat} {again : List Nat} {D1 : Nat} {o : Oper} {v : zab} {v' : Value} (h1 : zi9 all.toList h D = some D1) (ho : all[h]? = some o)
  (R : zce μ all olds anc n old tm D S (h :: order) tmps) (hp : zjf C μ dp all olds n old tm D S again) (hv : zaq μ v v') :
  zce μ all olds anc n old (putA n tm o.dst v) D1 (fun k => S k || k == h) order (Act.put ⟨tmps, ds⟩ o.dst v').tmps /\ zjf C μ dp all olds n old (putA n tm o.dst v) D1 (fun k => S k || k == h) again := by
 obtain ⟨o', ho', hi, hb, hD1⟩ := zjn h1
 rw [ho] at ho'; cases ho'
 refine ⟨R.did ho hD1 (fun d hd hn => by rw [zby, yab ⟨hd, hn⟩]) (fun d hd => by rw [zby, yaa fun e => absurd (hd e.1) (by omega)]) hv, fun i hDi hSi => ?_⟩
 simp only [yal, beq_eq_false_iff_ne] at hSi; rw [hD1] at hDi; simp only [ycq, beq_iff_eq] at hDi; have hDi := hDi.resolve_right hSi.2
 rcases hp i hDi hSi.1 with ⟨u, wu, vu, pu⟩ | ⟨u, vu, pu⟩
 ·exact .inl ⟨u, wu, vu, pu.imp (fun pu H => (pu H).keep R.reg R.dclosed hDi ho hi) (fun pu => ⟨pu.1, pu.2.keep R.reg R.dclosed hDi ho hi⟩)⟩
 ·exact .inr ⟨u, vu, pu.keep R.reg R.dclosed hDi ho hi⟩
inductive zea (C : Ctx) (μ : Mu) (dp : Nat) (n : Nat) : Option zaf -> List zcj -> Tm -> List Item -> Array Value -> Prop
 | plain {cur : Option zaf} {todo : List zcj} {tm : Tm} {btodo : List Item} {tmps : Array Value} : zfd (zbr μ) todo btodo -> zc3 μ n tm tmps -> zea C μ dp n cur todo tm btodo tmps
 | reg {H : zaf} {all : Array Oper} {old tm : Tm} {olds : List (Nat × List Nat)} {stages : List zc7} {k : List zcj} {order : List Nat} {k' : List Item} {tmps : Array Value} {anc : Tr Nat} {D : Nat} {S : Nat -> Bool} :
   zce μ all olds anc n old tm D S order tmps -> zcd all.toList anc stages D = true -> zb5 C μ dp H all olds n old tm D S -> zfd (zbr μ) k k' →
   zea C μ dp n (some H) (.reg all old olds stages :: k) tm (.inRegion all order :: k') tmps
 | mid {cur : Option zaf} {all : Array Oper} {old tm : Tm} {olds : List (Nat × List Nat)} {lights again : List Nat} {stages : List zc7} {k : List zcj} {order : List Nat} {k' : List Item} {tmps : Array Value} {anc : Tr Nat} {D D2 : Nat} {S : Nat -> Bool} :
   zce μ all olds anc n old tm D S order tmps -> zd9 all.toList lights D = some D2 -> zcd all.toList anc stages D2 = true -> zjf C μ dp all olds n old tm D S again -> zfd (zbr μ) k k' →
   zea C μ dp n cur (.reg all old olds (⟨all.size, lights, again⟩ :: stages) :: k) tm (.inRegion all order :: k') tmps
 | wait {all : Array Oper} {old tm : Tm} {olds : List (Nat × List Nat)} {st : zc7} {stages : List zc7} {k : List zcj} {order : List Nat} {k' : List Item} {tmps : Array Value} {anc : Tr Nat} {D : Nat} {S : Nat -> Bool} :
   zce μ all olds anc n old tm D S (st.heavy :: order) tmps -> zcd all.toList anc (st :: stages) D = true -> st.heavy <= all.size -> zjf C μ dp all olds n old tm D S st.again -> zfd (zbr μ) k k' →
   zea C μ dp n none (.reg all old olds (st :: stages) :: k) tm (.inRegion all (st.heavy :: order) :: k') tmps
theorem zb5.mono {ν : Mu} (h : μ.ln dp ν) (p : zb5 C μ dp H all olds n old tm D S) : zb5 C ν dp H all olds n old tm D S :=
 fun i h1 h2 => (p i h1 h2).imp id fun ⟨o, v, q⟩ => ⟨o, v, q.mono h⟩
theorem zjf.mono {ν : Mu} {again : List Nat} (h : μ.ln dp ν) (p : zjf C μ dp all olds n old tm D S again) : zjf C ν dp all olds n old tm D S again :=
 fun i h1 h2 => (p i h1 h2).imp id fun ⟨o, v, q⟩ => ⟨o, v, q.mono h⟩
theorem zea.mono {ν : Mu} (h : μ.ln dp ν) {cur : Option zaf} {todo : List zcj} {btodo : List Item} (R : zea C μ dp n cur todo tm btodo tmps) : zea C ν dp n cur todo tm btodo tmps := by
 have mk : ∀ {k : List zcj} {k' : List Item}, zfd (zbr μ) k k' -> zfd (zbr ν) k k' := fun k => zfd.mono (fun _ _ r => zbr.mono h r) k
 cases R with
 | plain a b => exact .plain (mk a) (b.mono h)
 | reg a b c d => exact .reg (a.mono h) b (c.mono h) (mk d)
 | mid a b c d e => exact .mid (a.mono h) b c (d.mono h) (mk e)
 | wait a b b' c d => exact .wait (a.mono h) b b' (c.mono h) (mk d)
end
end Go.Am
namespace Go.Am
open Go Go.RowKit
section
variable {P : Program} {C : Ctx} {B N : Nat} {μ ν : Mu} {H H' : zaf} {w : World} {n : Nat} {tm : Tm} {tmps : Array Value} {ds : List Deferred} {dp : Nat}
theorem zc3.put {v : zab} {v' : Value} {dst : Option Nat} (h : zc3 μ n tm tmps) (hv : zaq μ v v') : zc3 μ n (putA n tm dst v) (Act.put ⟨tmps, ds⟩ dst v').tmps := by
 cases dst with
 | none => exact h
 | some d =>
  refine ⟨by simp [Act.put, h.1], fun t x hx => ?_⟩
  rw [zby] at hx; simp only [Act.put, ycx, ycs]; by_cases e : d = t
  ·subst e
   by_cases hn : d < n
   ·rw [yab ⟨rfl, hn⟩] at hx
    cases hx; simp [h.1, hn, hv]
   ·rw [yaa fun k => hn k.2] at hx
    have := h.2 d x hx
    rw [zl2 (by rw [h.1]; omega)] at this
    simp [h.1, hn, this]
  ·rw [yaa fun k => e (yci k.1)] at hx
   have := h.2 t x hx
   simp_all
structure zgy (C : Ctx) (μ : Mu) (dp : Nat) (cur : Option zaf) (fr : zap) (b : Frame) : Prop where
 rest : zbv μ fr.R b
 body : if fr.R.mode.running = true then zea C μ dp fr.R.n cur fr.todo fr.tm b.todo b.tmps else zc3 μ fr.R.n fr.tm b.tmps
theorem zgy.mono (h : μ.ln dp ν) {cur : Option zaf} {fr : zap} {b : Frame} (r : zgy C μ dp cur fr b) : zgy C ν dp cur fr b := by
 refine ⟨r.rest.mono h, ?_⟩
 have := r.body
 split at this
 ·rename_i e; rw [yab e]; exact this.mono h
 ·rename_i e; rw [yaa e]; exact this.mono h
inductive Frs (C : Ctx) (μ : Mu) : List zap -> List Frame -> Prop
 | nil : Frs C μ [] []
 | cons {a : zap} {b : Frame} {l : List zap} {m : List Frame} : zgy C μ l.length none a b -> Frs C μ l m -> Frs C μ (a :: l) (b :: m)
theorem Frs.monoD {l : List zap} {m : List Frame} (r : Frs C μ l m) (h : ∀ d, d < l.length -> μ.ln d ν) : Frs C ν l m := by
 induction r with
 | nil => exact .nil
 | @cons a b l m h1 h2 ih => exact .cons (h1.mono (h _ (by simp))) (ih fun d hd => h d (by grind))
theorem Frs.mono {l : List zap} {m : List Frame} (r : Frs C μ l m) (h : μ.le ν) : Frs C ν l m := r.monoD fun d _ => h.ln d
theorem zic {fr fr' : zap} {b : Frame} {v : zab} {v' : Value} {cur : Option zaf} (r : zgy C μ dp none fr b) (h : zb4 fr v = some fr') (hv : zaq μ v v') : zgy C μ dp cur fr' (b.finish v') := by
 obtain ⟨todo, tm, R⟩ := fr
 unfold zb4 at h
 cases todo with
 | nil => cases h
 | cons x k =>
  simp only [zay] at h; split at h
  case isFalse => cases h
  rename_i hm; have body := r.body
  rw [yab hm] at body; have rest := r.rest
  obtain ⟨fn, btmps, btodo, bdefers, bmode, bkind, bround⟩ := b
  simp only at body rest
  cases body with
  | plain a t =>
   cases a with
   | cons i l =>
    cases i with
    | ops all i hi =>
     simp only [zxi] at h; unfold zzkt at h; split at h
     case h_2 => cases h
     rename_i o rest' ho
     cases h; obtain ⟨h1, h2⟩ := zey ho.symm
     have hlt : i < all.size := by grind
     have hr : (List.range all.size).drop i = i :: (List.range all.size).drop (i + 1) := by
      grind [List.drop_eq_getElem_cons]
     have ho2 : all[i]? = some o := by simp_all
     have e : ∀ k', Frame.finish ⟨fn, btmps, .inRegion all ((List.range all.size).drop i) :: k', bdefers, bmode, bkind, bround⟩ v' = ⟨fn, (Act.put ⟨btmps, bdefers⟩ o.dst v').tmps, .inRegion all ((List.range all.size).drop (i + 1)) :: k', bdefers, bmode, bkind, bround⟩ := by
      intro k'; simp only [Frame.finish, hr, ho2, yai]; unfold Act.put
      cases o.dst <;> rfl
     rw [e]; refine ⟨⟨rest.fn, ?_, rest.defers, rest.mode, rest.kind, rest.round⟩, ?_⟩
     ·exact (t.put (ds := bdefers) (dst := o.dst) hv).1
     ·rw [yab hm]
      rw [h2]; exact .plain (.cons (.ops all (i + 1) hlt) l) (t.put hv)
    | inRange l' i hl =>
     cases h; refine ⟨⟨rest.fn, rest.size, rest.defers, rest.mode, rest.kind, rest.round⟩, ?_⟩
     simp only [Frame.finish]; rw [yab hm]; exact .plain (.cons (.endRange l' i hl) l) t
    | beginRound =>
     cases h; refine ⟨⟨rest.fn, rest.size, rest.defers, rest.mode, rest.kind, rest.round⟩, ?_⟩
     simp only [Frame.finish]; rw [yab hm]; exact .plain l t
    | _ => cases h
  | mid a b c d e =>
   simp_all [zxi, zzdj, zbs]
  | @wait all old _ olds st stages _ order _ _ anc D S a b b2 c d =>
   simp only [zxi] at h; unfold zzdj at h; simp only [zac, zbs] at h; obtain ⟨o, ho, h⟩ := h
   cases h; have ho2 : all[st.heavy]? = some o := by simp_all
   obtain ⟨_, _, D1, D2, h1, h2, h3⟩ := zhi b b2
   obtain ⟨r1, r2⟩ := zzfm (ds := bdefers) h1 ho2 a c hv
   have e : ∀ k', Frame.finish ⟨fn, btmps, .inRegion all (st.heavy :: order) :: k', bdefers, bmode, bkind, bround⟩ v' = ⟨fn, (Act.put ⟨btmps, bdefers⟩ o.dst v').tmps, .inRegion all order :: k', bdefers, bmode, bkind, bround⟩ := by
    intro k'; simp only [Frame.finish, ho2, yai]; unfold Act.put
    cases o.dst <;> rfl
   rw [e]; refine ⟨⟨rest.fn, r1.size, rest.defers, rest.mode, rest.kind, rest.round⟩, ?_⟩
   rw [yab hm]; exact .mid r1 h2 h3 r2 d
def zci (P : Program) (C : Ctx) (B N : Nat) (μ : Mu) (base : List Frame) (m : Machine) (w : World) : zik -> Prop
 | .next s => ∃ μ' b cs w', Steps P m (lone b (cs ++ base) w') /\ μ.lw μ' /\ Below N w w' /\ zbp B N μ' s.H w' /\ zgy C μ' s.cs.length (some s.H) s.fr b /\ Frs C μ' s.cs cs
 | .done v H => ∃ μ' b w' v', Steps P m (lone b base w') /\ μ.lw μ' /\ Below N w w' /\ zbp B N μ' H w' /\ zaq μ' v v' /\ b.fn = C.root /\ b.leaving P w' (.returned v')
 | .fail _ => True
theorem zci.of_steps {base : List Frame} {m m1 : Machine} {o : zik} {w w1 : World} (hs : Steps P m m1) (hm : μ.lw ν) (hb : Below N w w1) (h : zci P C B N ν base m1 w1 o) : zci P C B N μ base m w o := by
 cases o with
 | fail => exact trivial
 | next s =>
  obtain ⟨μ', b, cs, w', h1, h2, h3, h4⟩ := h
  exact ⟨μ', b, cs, w', hs.trans h1, fun a i k => h2 a i (hm a i k), hb.trans h3, h4⟩
 | done v H =>
  obtain ⟨μ', b, w', v', h1, h2, h3, h4⟩ := h
  exact ⟨μ', b, w', v', hs.trans h1, fun a i k => h2 a i (hm a i k), hb.trans h3, h4⟩
theorem zziu {b : Frame} (h : b.mode = .run) : b.atR ⟨b.tmps, b.defers⟩ b.todo = b := by
 obtain ⟨fn, tmps, todo, defers, mode, kind, round⟩ := b
 simp only at h
 subst h; rfl
end
end Go.Am
namespace Go.Am
open Go Go.RowKit
structure Sim (P : Program) (C : Ctx) (B N : Nat) (I : World -> Prop) : Prop where
 tys : zdh P C
 fns : z06 P C
 prims : ztg P C B N I
 base : B <= C.base
 mixed : P.follows .mixedOrders = true
 inv : ∀ w w', Below N w w' -> I w -> I w'
section
variable {P : Program} {C : Ctx} {B N : Nat} {I : World -> Prop} {μ ν : Mu} {H H' : zaf} {w : World} {tm : Tm} {R : zgz} {acs : List zap} {base cs : List Frame}
variable {b : Frame} {tmps : Array Value} {ds : List Deferred} {k : List zcj} {k' : List Item}
theorem zbv.todo {todo : List Item} (h : zbv μ R (b.atR ⟨tmps, ds⟩ [])) : zbv μ R (b.atR ⟨tmps, ds⟩ todo) := ⟨h.fn, h.size, h.defers, h.mode, h.kind, h.round⟩
theorem zbv.running {todo : List Item} (h : zbv μ R (b.atR ⟨tmps, ds⟩ todo)) : R.mode.running = true := by
 have := h.mode
 cases hm : R.mode with
 | run => rfl
 | _ => rw [hm] at this; exact this.elim
theorem zhg {m : Machine} {todo : List zcj} {btodo : List Item} (hH : zbp B N μ H w) (hcs : Frs C μ acs cs) (hR : zbv μ R (b.atR ⟨tmps, ds⟩ [])) (ht : zc3 μ R.n tm tmps)
  (hk : zfd (zbr μ) todo btodo) (hs : Steps P m (lone (b.atR ⟨tmps, ds⟩ btodo) (cs ++ base) w)) : zci P C B N μ base m w (xGo todo tm R acs H) :=
 ⟨μ, _, cs, w, hs, fun _ _ h => h, Below.refl _ _, hH, ⟨hR.todo, by rw [yab hR.running]; exact .plain hk ht⟩, hcs⟩
theorem zwn (hH : zbp B N μ H w) (hcs : Frs C μ acs cs) (hR : zbv μ R (b.atR ⟨tmps, ds⟩ [])) (ht : zc3 μ R.n tm tmps) (hk : zfd (zbr μ) k k') {m : Machine}
  (hs : step P m = .next (lone (b.atR ⟨tmps, ds⟩ k') (cs ++ base) w)) : zci P C B N μ base m w (z1b C k tm R acs H) :=
 zhg hH hcs hR ht hk (.one hs)
theorem zzn2 (hH : zbp B N μ H w) (hcs : Frs C μ acs cs) (hR : zbv μ R (b.atR ⟨tmps, ds⟩ [])) (ht : zc3 μ R.n tm tmps) (hk : zfd (zbr μ) k k') {c : Operand} {x y : Code} :
  zci P C B N μ base (lone (b.atR ⟨tmps, ds⟩ (.code (.cond c x y) :: k')) (cs ++ base) w) w (z8n c x y C k tm R acs H) := by
 unfold z8n
 cases hc : ob (ev c (.now tm)) zab.asBool with
 | none => exact trivial
 | some t =>
  rw [zac] at hc; obtain ⟨v, hv, ht'⟩ := hc
  have : v = .bool t := by cases v <;> simp [zab.asBool] at ht'; rw [ht']
  subst this; have hr := ht.erel (ds := ds) hH.glob c _ hv
  rw [zaq] at hr; refine zhg hH hcs hR ht (.cons (.code _) hk) (.one ?_)
  rw [stepR_cond hr]
  cases t <;> rfl
theorem zziq (hH : zbp B N μ H w) (hcs : Frs C μ acs cs) (hR : zbv μ R (b.atR ⟨tmps, ds⟩ [])) (ht : zc3 μ R.n tm tmps) (hk : zfd (zbr μ) k k') {id : Nat} {c : Code} :
  zci P C B N μ base (lone (b.atR ⟨tmps, ds⟩ (.code (.block id c) :: k')) (cs ++ base) w) w (zzi4 id c C k tm R acs H) :=
 zhg hH hcs hR ht (.cons (.code _) (.cons (.inBlock _) hk)) (.one stepR_block)
theorem zzmo (hH : zbp B N μ H w) (hcs : Frs C μ acs cs) (hR : zbv μ R (b.atR ⟨tmps, ds⟩ [])) (ht : zc3 μ R.n tm tmps) (hk : zfd (zbr μ) k k') {c : Code} :
  zci P C B N μ base (lone (b.atR ⟨tmps, ds⟩ (.code (.loop c) :: k')) (cs ++ base) w) w (zzlb c C k tm R acs H) :=
 zhg hH hcs hR ht (.cons (.code _) (.cons (.inLoop _) hk)) (.one stepR_loop)
theorem zzdk {id : Nat} : ∀ {k : List zcj} {k' : List Item} {r : List zcj}, zfd (zbr μ) k k' -> zgm id k = some r -> ∃ r', exitTo id k' = some r' /\ zfd (zbr μ) r r' := by
 intro k k' r h; induction h with
 | nil => intro e; cases e
 | cons a l ih =>
  intro e
  cases a with
  | inBlock i =>
   grind [zgm, zcj.blockId, exitTo, zds]
  | _ =>
   unfold zgm at e; obtain ⟨r', h1, h2⟩ := ih e
   grind [exitTo]
end
end Go.Am
