/- Arithmetic, comparisons, conversions, slices. -/
import Derived.Below
import Derived.Laws.BytesString
import Derived.Lib.Strings
import Derived.Test.YthmbkdkibhffbaaGreatDoorC01
set_option linter.all false
noncomputable section
namespace Go.Am
open Go
section
variable {P : Program} {C : Ctx} {B N : Nat} {μ : Mu} {H : zai} {w : World}
variable {e : Env} {ρ : Operand -> Value} {dst : Option Tmp} {type : TypeId} {pos : String} {after : Array Edge} {guard : Option (Nat × Bool)} {v : zab}
theorem zgw {k : IntKind} {n : Nat} (h : n < kHi k) : k.wrap (n : Int) = n := by
 rw [<- zc6]; show (bif Nat.blt n (kHi k) then Int.ofNat n else _) = _
 rw [zar, if_pos (zdl.2 h)]; rfl
theorem zy5 (k : IntKind) : ∃ m, kHi k = 2 ^ m /\ m <= k.bits := by
 cases k
 ·exact ⟨7, rfl, by decide⟩
 ·exact ⟨15, rfl, by decide⟩
 ·exact ⟨31, rfl, by decide⟩
 ·exact ⟨63, rfl, by decide⟩
 ·exact ⟨8, rfl, by decide⟩
 ·exact ⟨16, rfl, by decide⟩
 ·exact ⟨32, rfl, by decide⟩
 ·exact ⟨64, rfl, by decide⟩
theorem zh7 {k : IntKind} {n : Nat} (h : n < kHi k) : (BitVec.ofInt k.bits (n : Int)).toNat = n := by
 obtain ⟨m, hm, hle⟩ := zy5 k
 rw [BitVec.toNat_ofInt]; have : n < 2 ^ k.bits := Nat.lt_of_lt_of_le (hm ▸ h) (Nat.pow_le_pow_right (by omega) hle)
 rw [<- Int.natCast_emod, Int.toNat_natCast, Nat.mod_eq_of_lt this]
theorem zkz {f : Nat -> Nat -> Nat} {k : IntKind} {a b : Int} {v : zab} (h : ze0 f k a b = some v) : ∃ x y : Nat, a = x /\ b = y /\ x < kHi k /\ y < kHi k /\ v = .int k (f x y : Nat) := by
 unfold ze0 at h; simp only [zad, zit, zae, yac, zdl] at h; obtain ⟨x, rfl, y, rfl, ⟨h1, h2⟩, h⟩ := h
 cases h; exact ⟨x, y, rfl, rfl, h1, h2, rfl⟩
theorem zzab {op : BinOp} {k : IntKind} {a b : Int} (h : (zzac op).f k a b = some v) : op ≠ .shl /\ op ≠ .shr /\ ∀ t, ∃ v', (binOp op t (.int k a) (.int k b)).run P w = .ok v' w /\ zaq μ v v' := by
 cases op <;> simp only [zzac] at h
 case add => cases h; exact ⟨by simp, by simp, fun t => ⟨.int k (k.wrap (a + b)), by simp [binOp, Op.intArith], by rw [zaq, zc6]⟩⟩
 case sub => cases h; exact ⟨by simp, by simp, fun t => ⟨.int k (k.wrap (a - b)), by simp [binOp, Op.intArith], by rw [zaq, zc6]⟩⟩
 case mul => cases h; exact ⟨by simp, by simp, fun t => ⟨.int k (k.wrap (a * b)), by simp [binOp, Op.intArith], by rw [zaq, zc6]⟩⟩
 case quo =>
  unfold zzc1 at h; simp only [zar, zji] at h; split at h
  ·cases h
  ·rename_i hb; cases h
   refine ⟨by simp, by simp, fun t => ⟨.int k (k.wrap (a.tdiv b)), ?_, by rw [zaq, zc6]⟩⟩
   simp [binOp, Op.intDiv, hb]
 case rem =>
  unfold zzc0 at h; simp only [zar, zji] at h; split at h
  ·cases h
  ·rename_i hb; cases h
   refine ⟨by simp, by simp, fun t => ⟨.int k (a.tmod b), ?_, by rw [zaq]⟩⟩
   simp [binOp, Op.intDiv, hb]
 case and =>
  obtain ⟨x, y, rfl, rfl, hx, hy, rfl⟩ := zkz h
  refine ⟨by simp, by simp, fun t => ⟨.int k ((x &&& y : Nat) : Int), ?_, by rw [zaq]; rfl⟩⟩
  have h1 : x &&& y < kHi k := Nat.lt_of_le_of_lt Nat.and_le_left hx
  simp only [binOp, Op.intBits, BitVec.toNat_and, zh7 hx, zh7 hy, zgw h1]; simp
 case or =>
  obtain ⟨x, y, rfl, rfl, hx, hy, rfl⟩ := zkz h
  obtain ⟨m, hm, _⟩ := zy5 k
  refine ⟨by simp, by simp, fun t => ⟨.int k ((x ||| y : Nat) : Int), ?_, by rw [zaq]; rfl⟩⟩
  have h1 : x ||| y < kHi k := by rw [hm]; exact Nat.or_lt_two_pow (hm ▸ hx) (hm ▸ hy)
  simp only [binOp, Op.intBits, BitVec.toNat_or, zh7 hx, zh7 hy, zgw h1]; simp
 case xor =>
  obtain ⟨x, y, rfl, rfl, hx, hy, rfl⟩ := zkz h
  obtain ⟨m, hm, _⟩ := zy5 k
  refine ⟨by simp, by simp, fun t => ⟨.int k ((x ^^^ y : Nat) : Int), ?_, by rw [zaq]; rfl⟩⟩
  have h1 : x ^^^ y < kHi k := by rw [hm]; exact Nat.xor_lt_two_pow (hm ▸ hx) (hm ▸ hy)
  simp only [binOp, Op.intBits, BitVec.toNat_xor, zh7 hx, zh7 hy, zgw h1]; simp
 case eql => cases h; exact ⟨by simp, by simp, fun t => ⟨.bool (a == b), by simp [binOp, Op.intCmp], by rw [zaq, zqt]⟩⟩
 case neq => cases h; exact ⟨by simp, by simp, fun t => ⟨.bool (a != b), by simp [binOp, Op.intCmp], by rw [zaq, zqt]; rfl⟩⟩
 case lss => cases h; exact ⟨by simp, by simp, fun t => ⟨.bool (a < b), by simp [binOp, Op.intCmp], by rw [zaq, zzfq]⟩⟩
 case leq => cases h; exact ⟨by simp, by simp, fun t => ⟨.bool (a <= b), by simp [binOp, Op.intCmp], by rw [zaq, zzfr]⟩⟩
 case gtr => cases h; exact ⟨by simp, by simp, fun t => ⟨.bool (a > b), by simp [binOp, Op.intCmp], by rw [zaq, zzfq]⟩⟩
 case geq => cases h; exact ⟨by simp, by simp, fun t => ⟨.bool (a >= b), by simp [binOp, Op.intCmp], by rw [zaq, zzfr]⟩⟩
 all_goals cases h
theorem zdv (s : ByteArray) : (zbm s).length = s.size := by simp [zbm]
theorem zus (a b : ByteArray) : zbm (a ++ b) = zbm a ++ zbm b := by simp [zbm]
theorem z4a (s : ByteArray) (i : Nat) : (zbm s)[i]? = (s[i]?).map UInt8.toNat := by
 unfold zbm; rw [yav]; congr 1
 by_cases h : i < s.size
 ·rw [getElem?_pos s i h]
  simp [ByteArray.getElem_eq_getElem_data]
 ·rw [getElem?_neg s i h]
  simp; exact Nat.le_of_not_lt h
theorem zln (s : ByteArray) (l h : Nat) : zbm (s.extract l h) = ((zbm s).take h).drop l := by
 unfold zbm; rw [ByteArray.data_extract, Array.toList_extract, List.extract_eq_take_drop, <- List.map_take, <- List.map_drop, List.drop_take]
theorem zw8 {a b : ByteArray} : (a.toList == b.toList) = (zjx (zbm a) (zbm b)) := by
 rw [Lib.toList_data, Lib.toList_data, Bool.eq_iff_iff, zfi]; constructor
 ·intro h; simp at h; unfold zbm; rw [h]
 ·intro h; rw [zk6 h]; simp
theorem z3l (a : List UInt8) : ∀ b : List UInt8, Op.bytesLess a b = zy4 (a.map UInt8.toNat) (b.map UInt8.toNat) := by
 induction a with
 | nil => intro b; cases b <;> rfl
 | cons x a ih =>
  intro b
  cases b with
  | nil => rfl
  | cons y b =>
   show _ = (bif Nat.blt x.toNat y.toNat then true else bif Nat.beq x.toNat y.toNat then zy4 (a.map UInt8.toNat) (b.map UInt8.toNat) else false)
   rw [Op.bytesLess, ih, zar, zar]; by_cases h : x < y
   ·have : Nat.blt x.toNat y.toNat = true := zdl.2 (by exact UInt8.lt_iff_toNat_lt.1 h)
    rw [if_pos this]; simp [h]
   ·have h1 : ¬ Nat.blt x.toNat y.toNat = true := fun k => h (UInt8.lt_iff_toNat_lt.2 (zdl.1 k))
    rw [if_neg h1]; by_cases he : x = y
    ·subst he; rw [if_pos (Nat.beq_refl _)]; simp [h]
    ·have h2 : ¬ Nat.beq x.toNat y.toNat = true := fun k => he (UInt8.toNat_inj.1 (zc0.1 k))
     rw [if_neg h2]; simp [h, he]
theorem z98 {op : BinOp} {a b : ByteArray} (h : (z99 op).f (zbm a) (zbm b) = some v) : op ≠ .shl /\ op ≠ .shr /\ ∀ t, ∃ v', (binOp op t (.string a) (.string b)).run P w = .ok v' w /\ zaq μ v v' := by
 cases op <;> simp only [z99] at h
 case add =>
  simp only [z6q, zae, zdl, zbb, zcl, zdv] at h; obtain ⟨h1, h⟩ := h
  cases h; refine ⟨by simp, by simp, fun t => ⟨.string (a ++ b), ?_, by rw [zaq]; exact ⟨_, rfl, zus a b⟩⟩⟩
  have h2 : ¬ (((a.size + b.size : Nat) : Int) > IntKind.i64.max) := by
   have : IntKind.i64.max = 9223372036854775807 := by decide
   rw [this]; omega
  simp only [binOp, Op.stringOp, if_neg h2]; rfl
 case eql => cases h; exact ⟨by simp, by simp, fun t => ⟨.bool (a.toList == b.toList), rfl, by rw [zaq, zw8]⟩⟩
 case neq => cases h; exact ⟨by simp, by simp, fun t => ⟨.bool !(a.toList == b.toList), rfl, by rw [zaq, zw8]⟩⟩
 case lss => cases h; exact ⟨by simp, by simp, fun t => ⟨.bool (Op.bytesLess a.toList b.toList), rfl, by rw [zaq, Lib.toList_data, Lib.toList_data, z3l]; rfl⟩⟩
 all_goals cases h
theorem zi1 {op : BinOp} {t : TypeId} {x y : Operand} {a b : Value} (h1 : ¬ (a = .nilIface /\ b = .nilIface) \/ (zms x || zms y) = true) (h2 : ∀ l m, ¬ (a = .agg l /\ b = .agg m)) : (eqGuard op t x y a b).run P w = .ok () w := by
 unfold eqGuard
 cases op
 case eql | neq =>
  rw [if_neg (by simp)]
  split
  ·rcases h1 with h1 | h1
   ·exact absurd ⟨rfl, rfl⟩ h1
   ·cases x <;> cases y <;> simp [zms] at h1 ⊢
  ·exact absurd ⟨rfl, rfl⟩ (h2 _ _)
  ·rfl
 all_goals rfl
theorem zzl {op : BinOp} {t : TypeId} {x y : Operand} {l m : Array Value} (h : P.eqGuardType P.depth t = false) : (eqGuard op t x y (.agg l) (.agg m)).run P w = .ok () w := by
 unfold eqGuard
 cases op
 case eql | neq => rw [if_neg (by simp)]; simp [h]
 all_goals rfl
theorem zin {op : BinOp} {t yt : TypeId} {x y : Operand} {v' : Value} (h1 : (eqGuard op t x y (ρ x) (ρ y)).run P w = .ok () w) (h2 : (binOp op t (ρ x) (ρ y)).run P w = .ok v' w) :
  (execOp ρ ⟨dst, .binOp op t x y yt, type, pos, after, guard⟩).run P w = .ok (.value v') w := by
 simp only [execOp, Sem.run_bind, h1, Result.andThen_ok, h2, Sem.run_pure]
theorem zp0 {k : IntKind} {b : Int} {n : Nat} (h : zoa k b = some n) : ¬ b < 0 /\ n = min b.toNat k.bits := by
 unfold zoa at h; simp only [zad, zit] at h; obtain ⟨m, rfl, h⟩ := h
 cases h; exact ⟨by omega, by simp⟩
theorem zq7 {op : BinOp} {t yt : TypeId} {x y : Operand} {a b : zab} (hx : zaq μ a (ρ x)) (hy : zaq μ b (ρ y))
  (h : (op = .shl /\ zm2 z3s a b = some v) \/ (op = .shr /\ zm2 zzhr a b = some v)) : LOk P μ w ρ ⟨dst, .binOp op t x y yt, type, pos, after, guard⟩ v := by
 rcases h with ⟨rfl, h⟩ | ⟨rfl, h⟩
 all_goals
  unfold zm2 at h; simp only [zad, zcd, zn0] at h; obtain ⟨p, rfl, n, ⟨k', rfl⟩, h⟩ := h
  rw [zaq] at hx hy
 ·unfold z3s at h
  rw [zad] at h; obtain ⟨m, hm, h⟩ := h
  cases h; obtain ⟨h1, rfl⟩ := zp0 hm
  refine ⟨.int p.1 (p.1.wrap (p.2 * 2 ^ (min n.toNat p.1.bits))), zin (zi1 (.inl (by rw [hx]; simp)) (by rw [hx]; simp)) ?_, by rw [zaq, zc6]; simp⟩
  rw [hx, hy]; simp [binOp, Op.shift, h1]
 ·unfold zzhr at h
  rw [zad] at h; obtain ⟨m, hm, h⟩ := h
  cases h; obtain ⟨h1, rfl⟩ := zp0 hm
  refine ⟨.int p.1 (p.2.fdiv (2 ^ (min n.toNat p.1.bits))), zin (zi1 (.inl (by rw [hx]; simp)) (by rw [hx]; simp)) ?_, by rw [zaq]; simp⟩
  rw [hx, hy]; simp [binOp, Op.shift, h1]
theorem zi0 {n m : Nat} {a b : zab} {r : Bool} (h : zwx n m a b = some r) : (a.tag = n /\ b.tag = n /\ r = true) \/ (a.tag = n /\ b.tag = m /\ r = false) \/ (a.tag = m /\ b.tag = n /\ r = false) := by
 unfold zwx at h; simp only [zar, zc0] at h; split at h
 ·split at h
  ·cases h; rename_i h1 h2; exact .inl ⟨h1, h2, rfl⟩
  ·rw [zae, zc0] at h; obtain ⟨h1, h⟩ := h; cases h; rename_i h2 _; exact .inr (.inl ⟨h2, h1, rfl⟩)
 ·rw [zae, yac, zc0, zc0] at h; obtain ⟨⟨h1, h2⟩, h⟩ := h; cases h; exact .inr (.inr ⟨h1, h2, rfl⟩)
theorem z9o {t : Nat} {ty : ATy} (hF : zdc P t ty) {a b : zab} {va vb : Value} (ha : zaq μ a va) (hb : zaq μ b vb) {r : Bool} {d : Nat} (h : z18 ty.desc a b = some r) :
  (Op.equalIn (d + 1) t va vb).run P w = .ok r w := by
 obtain ⟨D, hD⟩ := hF.und
 have h0 := hF.desc
 unfold zgh at h0; rw [hD] at h0; unfold Op.equalIn; rw [Sem.run_bind, zbe hD, Result.andThen_ok]; rw [<- h0] at h
 cases D <;> simp only [z18] at h <;> try (cases h; done)
 case bool =>
  simp only [zwy, zad, zef] at h; obtain ⟨x, rfl, y, rfl, h⟩ := h
  cases h; rw [zaq] at ha hb; rw [ha, hb, zon]; rfl
 case int k =>
  simp only [zzic, zad, zcd, zae, ze3] at h; obtain ⟨x, rfl, y, rfl, hk, h⟩ := h
  cases h; rw [zaq] at ha hb; rw [ha, hb, zqt]; simp [hk]
 case string =>
  simp only [zuo, zad, zcv] at h; obtain ⟨x, rfl, y, rfl, h⟩ := h
  cases h; rw [zaq] at ha hb; obtain ⟨s, rfl, rfl⟩ := ha
  obtain ⟨u, rfl, rfl⟩ := hb
  have : (s == u) = zjx (zbm s) (zbm u) := by
   rw [Bool.eq_iff_iff, zfi]; have h1 : (s == u) = (s.data == u.data) := rfl
   rw [h1]; exact ⟨fun h => (by unfold zbm; rw [eq_of_beq h]), fun h => (by rw [zk6 h]; exact beq_self_eq_true u.data)⟩
  rw [<- this]; rfl
 case pointer el =>
  rcases zi0 h with ⟨h1, h2, rfl⟩ | ⟨h1, h2, rfl⟩ | ⟨h1, h2, rfl⟩ <;> cases a <;> simp [zab.tag] at h1 <;> cases b <;> simp [zab.tag] at h2 <;> rw [zaq] at ha <;> rw [zaq] at hb
  ·rw [ha, hb]; rfl
  ·obtain ⟨i, _, hb⟩ := hb; rw [ha, hb]; rfl
  ·obtain ⟨i, _, ha⟩ := ha; rw [ha, hb]; rfl
 case slice el =>
  rcases zi0 h with ⟨h1, h2, rfl⟩ | ⟨h1, h2, rfl⟩ | ⟨h1, h2, rfl⟩ <;> cases a <;> simp [zab.tag] at h1 <;> cases b <;> simp [zab.tag] at h2 <;> rw [zaq] at ha <;> rw [zaq] at hb
  ·rw [ha, hb]; rfl
  ·rcases hb with ⟨i, _, _, hb, _⟩ | ⟨_, _, _, _, _, hb⟩ <;> (rw [ha, hb]; rfl)
  ·rcases ha with ⟨i, _, _, ha, _⟩ | ⟨_, _, _, _, _, ha⟩ <;> (rw [ha, hb]; rfl)
 case map k el =>
  rcases zi0 h with ⟨h1, h2, rfl⟩ | ⟨h1, h2, rfl⟩ | ⟨h1, h2, rfl⟩ <;> cases a <;> simp [zab.tag] at h1 <;> cases b <;> simp [zab.tag] at h2 <;> rw [zaq] at ha <;> rw [zaq] at hb
  ·rw [ha, hb]; rfl
  ·obtain ⟨i, _, hb⟩ := hb; rw [ha, hb]; rfl
  ·obtain ⟨i, _, ha⟩ := ha; rw [ha, hb]; rfl
 case func ps rs vd =>
  rcases zi0 h with ⟨h1, h2, rfl⟩ | ⟨h1, h2, rfl⟩ | ⟨h1, h2, rfl⟩ <;> cases a <;> simp [zab.tag] at h1 <;> cases b <;> simp [zab.tag] at h2 <;> rw [zaq] at ha <;> rw [zaq] at hb
  ·rw [ha, hb]; rfl
  ·obtain ⟨i, _, _, hb, _⟩ := hb; rw [ha, hb]; rfl
  ·obtain ⟨i, _, _, ha, _⟩ := ha; rw [ha, hb]; rfl
 case interface ms =>
  rcases zi0 h with ⟨h1, h2, rfl⟩ | ⟨h1, h2, rfl⟩ | ⟨h1, h2, rfl⟩ <;> cases a <;> simp [zab.tag] at h1 <;> cases b <;> simp [zab.tag] at h2 <;> rw [zaq] at ha <;> rw [zaq] at hb
  ·rw [ha, hb]; rfl
  ·obtain ⟨i, hb, _⟩ := hb; rw [ha, hb]; rfl
  ·obtain ⟨i, ha, _⟩ := ha; rw [ha, hb]; rfl
theorem zqw {t : Nat} {g : Array Field} (h : P.underlying t = some (.struct g)) : P.fieldsOf t = g := by unfold Program.fieldsOf; rw [h]
theorem zzd2 (hT : zdm P C) {D : Nat} {eq : Nat -> zab -> zab -> Option Bool} (heq : ∀ t a b va vb r, zaq μ a va -> zaq μ b vb -> eq t a b = some r -> (Op.equalIn D t va vb).run P w = .ok r w)
  {xs ys : List zab} {vx vy : Array Value} (hx : zby μ xs vx.toList) (hy : zby μ ys vy.toList) : ∀ (g : List Field) (r : Bool), (∀ f ∈ g, f.name ≠ "_") -> zzd3 C eq xs ys (g.map fun f => (f.offset, f.type, P.cellsOf f.type)) = some r →
   (Op.eqFields D vx vy g).run P w = .ok r w := by
 intro g; induction g with
 | nil => intro r _ h; cases h; rfl
 | cons f g ih =>
  intro r hn h; rw [List.map_cons, zzd3] at h; simp only [zad] at h; obtain ⟨a, ha, b, hb, q, hq, h⟩ := h
  obtain ⟨va, h1, h2⟩ := zo4 (P := P) (w := w) hT hx ha
  obtain ⟨vb, h3, h4⟩ := zo4 (P := P) (w := w) hT hy hb
  have h5 := heq _ _ _ _ _ _ h2 h4 hq
  rw [Op.eqFields, if_pos (hn f (by simp))]
  simp only [Sem.run_bind, h1, Result.andThen_ok, h3, h5]
  cases q with
  | true => rw [cond_true] at h; simpa using ih r (fun f hf => hn f (by simp [hf])) h
  | false => rw [cond_false] at h; cases h; simp
theorem aeq_ok (hT : zdm P C) : ∀ (d D t : Nat) (a b : zab) (va vb : Value) (r : Bool), d <= D -> zaq μ a va -> zaq μ b vb -> aeq C d t a b = some r -> (Op.equalIn D t va vb).run P w = .ok r w := by
 intro d; induction d with
 | zero => intro D t a b va vb r _ _ _ h; cases h
 | succ d ih =>
  intro D t a b va vb r hD ha hb h
  cases D with
  | zero => omega
  | succ D =>
   rw [aeq, zad] at h; obtain ⟨ty, hty, h⟩ := h
   have hF := hT.facts hty
   split at h
   ·rename_i fs hfs
    simp only [zae, zad, zi5] at h; obtain ⟨hok, xs, rfl, ys, rfl, h⟩ := h
    obtain ⟨g, hg, rfl⟩ := zjj hF hfs
    obtain ⟨h1, _, h3⟩ := hF.eqOk hok
    rw [zaq] at ha; rw [zaq] at hb; obtain ⟨cx, rfl, hx⟩ := ha
    obtain ⟨cy, rfl, hy⟩ := hb
    have hfo := zqw hg
    rw [run_equalIn_struct w D t cx cy (by rw [hfo]; exact hg) h1, hfo]
    exact zzd2 hT (fun t a b va vb r h1 h2 h3 => ih D t a b va vb r (by omega) h1 h2 h3) hx hy g.toList r (hfo ▸ h3) h
   ·exact z9o hF ha hb h
theorem zziu (hT : zdm P C) {d t : Nat} {a b : zab} {l m : Array Value} {r : Bool} (ha : zaq μ a (.agg l)) (hb : zaq μ b (.agg m)) (h : aeq C d t a b = some r) : P.eqGuardType P.depth t = false := by
 cases d with
 | zero => cases h
 | succ d =>
  rw [aeq, zad] at h; obtain ⟨ty, hty, h⟩ := h
  split at h
  ·rw [zae] at h; exact ((hT.facts hty).eqOk h.1).2.1
  ·exfalso
   have hag : ∀ (a : zab) (l : Array Value), zaq μ a (.agg l) -> a.tag = 13 := by
    intro a l ha
    cases a <;> rw [zaq] at ha <;> first | rfl | (exfalso; revert ha; simp)
   have h1 := hag _ _ ha
   have h2 := hag _ _ hb
   cases a <;> simp [zab.tag] at h1
   cases b <;> simp [zab.tag] at h2
   revert h
   cases ty.desc <;> simp [z18, zwy, zab.asBool, zzic, zab.asIntK, zuo, zab.asStr, zwx, z17, zab.tag, zao, Nat.beq]
theorem zn6 {a : zab} {v : Value} (h : zaq μ a v) : v = .nilIface -> a.tag = 12 := by
 intro hv; subst hv
 cases a <;> rw [zaq] at h <;> first | rfl | (exfalso; revert h; simp)
theorem zq8 (hT : zdm P C) {op : BinOp} {t yt : TypeId} {x y : Operand} {a b : zab} {neg : Bool} (hx : zaq μ a (ρ x)) (hy : zaq μ b (ρ y)) (ha : a.asIntK = none) (hs : a.asStr = none)
  (hop : (neg = false /\ op = .eql) \/ (neg = true /\ op = .neq)) (h : zpe neg C t x y a b = some v) : LOk P μ w ρ ⟨dst, .binOp op t x y yt, type, pos, after, guard⟩ v := by
 unfold zpe at h; simp only [zae, zad] at h; obtain ⟨hg, r, hr, h⟩ := h
 cases h; have h1 : (Op.equal t (ρ x) (ρ y)).run P w = .ok r w := aeq_ok hT 20 10000 t a b _ _ r (by decide) hx hy hr
 have hG : (eqGuard op t x y (ρ x) (ρ y)).run P w = .ok () w := by
  by_cases hag : ∃ l m, ρ x = .agg l /\ ρ y = .agg m
  ·obtain ⟨l, m, h2, h3⟩ := hag
   rw [h2] at hx; rw [h3] at hy; rw [h2, h3]; exact zzl (zziu hT hx hy hr)
  ·refine zi1 ?_ fun l m hlm => hag ⟨l, m, hlm⟩
   by_cases hn : ρ x = .nilIface /\ ρ y = .nilIface
   ·right
    have h2 := zn6 hx hn.1
    have h3 := zn6 hy hn.2
    unfold z16 at hg; rw [h2, h3] at hg; simpa [Nat.beq] using hg
   ·exact .inl hn
 have hnx : ∀ k n, ρ x ≠ .int k n := by
  intro k n hv; rw [hv] at hx
  cases a <;> rw [zaq] at hx <;> first | (simp [zab.asIntK] at ha; done) | (revert hx; simp)
 have hsx : ∀ s, ρ x ≠ .string s := by
  intro s hv; rw [hv] at hx
  cases a <;> rw [zaq] at hx <;> first | (simp [zab.asStr] at hs; done) | (revert hx; simp)
 have hfx : ∀ k n, ρ x ≠ .float k n := by
  intro k n hv; rw [hv] at hx
  cases a <;> rw [zaq] at hx <;> revert hx <;> simp
 have hcx : ∀ k n m, ρ x ≠ .complex k n m := by
  intro k n m hv; rw [hv] at hx
  cases a <;> rw [zaq] at hx <;> revert hx <;> simp
 rcases hop with ⟨rfl, rfl⟩ | ⟨rfl, rfl⟩
 ·refine ⟨.bool r, zin hG ?_, by rw [zaq]; rfl⟩
  revert h1 hnx hsx hfx hcx
  generalize ρ x = vx
  generalize ρ y = vy
  intro h1 hnx hsx hfx hcx
  cases vx <;> first
   | exact absurd rfl (hnx _ _)
   | exact absurd rfl (hsx _)
   | exact absurd rfl (hfx _ _)
   | exact absurd rfl (hcx _ _ _)
   | simp [binOp, h1]
 ·refine ⟨.bool (!r), zin hG ?_, by rw [zaq]; rfl⟩
  revert h1 hnx hsx hfx hcx
  generalize ρ x = vx
  generalize ρ y = vy
  intro h1 hnx hsx hfx hcx
  cases vx <;> first
   | exact absurd rfl (hnx _ _)
   | exact absurd rfl (hsx _)
   | exact absurd rfl (hfx _ _)
   | exact absurd rfl (hcx _ _ _)
   | simp [binOp, h1]
theorem z8n (hT : zdm P C) (hE : zht μ e ρ) {op : BinOp} {t yt : Nat} {x y : Operand} (h : zwj op t x y C e H = some v) : LOk P μ w ρ ⟨dst, .binOp op t x y yt, type, pos, after, guard⟩ v := by
 unfold zwj at h; simp only [zad] at h; obtain ⟨a, ha, b, hb, h⟩ := h
 have hx := hE _ _ ha
 have hy := hE _ _ hb
 clear ha hb
 revert h
 have plain : ∀ op, op ≠ .shl -> op ≠ .shr -> zut op C t x y a b = some v -> LOk P μ w ρ ⟨dst, .binOp op t x y yt, type, pos, after, guard⟩ v := by
  intro op _ _ h; unfold zut at h; split at h
  ·rename_i i hi
   simp only [zad, zcd, zae, ze3] at h; obtain ⟨j, rfl, hk, h⟩ := h
   rw [zcd] at hi; subst hi; rw [zaq] at hx; rw [zaq] at hy; obtain ⟨_, _, h2⟩ := zzab (P := P) (μ := μ) (w := w) h
   obtain ⟨v', h3, h4⟩ := h2 t
   refine ⟨v', zin (zi1 (.inl (by rw [hx]; simp)) (by rw [hx]; simp)) ?_, h4⟩
   rw [hx, hy, <- hk]; exact h3
  ·rename_i hi
   split at h
   ·rename_i s hs
    simp only [zad, zcv] at h; obtain ⟨u, rfl, h⟩ := h
    rw [zcv] at hs; subst hs; rw [zaq] at hx; rw [zaq] at hy; obtain ⟨sx, hx, rfl⟩ := hx
    obtain ⟨sy, hy, rfl⟩ := hy
    obtain ⟨_, _, h2⟩ := z98 (P := P) (μ := μ) (w := w) h
    obtain ⟨v', h3, h4⟩ := h2 t
    refine ⟨v', zin (zi1 (.inl (by rw [hx]; simp)) (by rw [hx]; simp)) ?_, h4⟩
    rw [hx, hy]; exact h3
   ·rename_i hs
    cases op <;> simp only [zzaa] at h <;> first
     | exact zq8 hT hx hy hi hs (.inl ⟨rfl, rfl⟩) h
     | exact zq8 hT hx hy hi hs (.inr ⟨rfl, rfl⟩) h
     | (cases h; done)
 intro h
 cases op <;> simp only [zxd] at h <;> first
  | exact zq7 hx hy (.inl ⟨rfl, h⟩)
  | exact zq7 hx hy (.inr ⟨rfl, h⟩)
  | exact plain _ (by simp) (by simp) h
theorem z8s {k : IntKind} (h : kLo k = 0) : kHi k = 2 ^ k.bits := by
 cases k <;> first
  | (cases h; done)
  | rfl
theorem zze2 (hE : zht μ e ρ) {op : UnOp} {t : Nat} {x : Operand} (h : lUn op x C e H = some v) : LOk P μ w ρ ⟨dst, .unOp op t x, type, pos, after, guard⟩ v := by
 unfold lUn at h; simp only [zad] at h; obtain ⟨a, ha, h⟩ := h
 have hx := hE _ _ ha
 cases op <;> simp only [unA] at h <;> try (cases h; done)
 case neg =>
  simp only [unNeg, zad, zcd] at h; obtain ⟨p, rfl, h⟩ := h
  cases h; rw [zaq] at hx; refine ⟨.int p.1 (p.1.wrap (0 - p.2)), ?_, by rw [zaq, zc6]⟩
  simp [execOp, hx, Op.unary, Op.intArith]
 case xor =>
  simp only [zx3, zad, zcd, zae, zc0] at h; obtain ⟨p, rfl, hk, h⟩ := h
  obtain ⟨a, b, ha1, hb, hx1, hy, rfl⟩ := zkz h
  rw [zaq] at hx; have h1 : Nat.xor a b < kHi p.1 := by
   have : Nat.xor a b < 2 ^ p.1.bits := Nat.xor_lt_two_pow (by rw [<- z8s hk]; exact hx1) (by rw [<- z8s hk]; exact hy)
   rw [z8s hk]; exact this
  refine ⟨.int p.1 (Nat.xor a b : Nat), ?_, by rw [zaq]⟩
  have hm : (if p.1.signed then (-1 : Int) else p.1.max) = (a : Int) := by
   rw [<- ha1]; revert hk
   cases p.1 <;> intro hk <;> first
    | (cases hk; done)
    | rfl
  have e2 : (Op.intBits .xor p.1 (if p.1.signed then -1 else p.1.max) p.2).run P w = .ok (.int p.1 (Nat.xor a b : Nat)) w := by
   rw [hm, hb]; simp only [Op.intBits, BitVec.toNat_xor, zh7 hx1, zh7 hy]; rw [show (a ^^^ b : Nat) = Nat.xor a b from rfl, zgw h1]
   rfl
  simp [execOp, hx, Op.unary]
  rw [e2]; rfl
 case not =>
  simp only [unNot, zad, zef] at h; obtain ⟨b, rfl, h⟩ := h
  cases h; rw [zaq] at hx; refine ⟨.bool (!b), ?_, by rw [zaq]⟩
  simp [execOp, hx, Op.unary]
end
end Go.Am
namespace Go.Am
open Go
section
variable {P : Program} {C : Ctx} {B N : Nat} {μ : Mu} {H : zai} {w : World}
variable {e : Env} {ρ : Operand -> Value} {dst : Option Tmp} {type : TypeId} {pos : String} {after : Array Edge} {guard : Option (Nat × Bool)} {v : zab}
theorem zxa {a : zab} {n : Nat} (h : zkk a = some n) : a = .int .u8 (n : Int) /\ n < 256 := by
 unfold zkk at h; simp only [zad, zcd, zae, ze3, zit, zdl] at h; obtain ⟨p, rfl, hk, m, hm, hlt, h⟩ := h
 cases h; rw [hk, hm]; exact ⟨rfl, hlt⟩
theorem zzw (l : List Nat) : ∀ s : ByteArray, (∀ n ∈ l, n < 256) -> zbm ((l.map fun n : Nat => (n : Int)).foldl (fun r n => r.push (UInt8.ofNat n.toNat)) s) = zbm s ++ l := by
 induction l with
 | nil => intro s _; simp
 | cons n l ih =>
  intro s h; rw [List.map_cons, List.foldl_cons, ih _ fun m hm => h m (by simp [hm])]
  have : zbm (s.push (UInt8.ofNat (n : Int).toNat)) = zbm s ++ [n] := by
   have hn := h n (by simp)
   simp [zbm, Nat.mod_eq_of_lt hn]
  rw [this]; simp
theorem z39 {μ : Mu} : ∀ {l : List zab} {r : List Nat} {vs : List Value}, zga zkk l = some r -> zby μ l vs -> vs = r.map (fun n : Nat => Value.int .u8 (n : Int)) /\ ∀ n ∈ r, n < 256 := by
 intro l; induction l with
 | nil => intro r vs h k; rw [zke] at h; cases h; rw [zby] at k; subst k; exact ⟨rfl, by simp⟩
 | cons a l ih =>
  intro r vs h k; rw [zdi, zad] at h; obtain ⟨n, hn, h⟩ := h
  rw [zad] at h; obtain ⟨r', hr, h⟩ := h
  cases h; rw [zby] at k; obtain ⟨v, m, rfl, h1, h2⟩ := k
  obtain ⟨rfl, hlt⟩ := zxa hn
  rw [zaq] at h1; obtain ⟨h3, h4⟩ := ih hr h2
  subst h1 h3
  exact ⟨rfl, fun m hm => (yat.1 hm).elim (fun e => e ▸ hlt) (h4 m)⟩
theorem zw0 (hH : zb0 B N μ H w) {a : zab} {x : Value} (hx : zaq μ a x) (h : zi2 H a = some v) : ∃ v', (Conv.bytesToString x).run P w = .ok v' w /\ zaq μ v v' /\ ∃ A l c, x = .slice A l c := by
 unfold zi2 at h; split at h
 ·rename_i s hs
  rw [zdp] at hs; subst hs; simp only [zad] at h; obtain ⟨c, hc, l, hl, r, hr, h⟩ := h
  cases h; rw [zaq] at hx; rcases hx with ⟨i, cap', hi, rfl, _⟩ | ⟨_, _, h0, _, A, rfl⟩
  rotate_left
  ·rw [h0] at hl
   cases hl
   cases hr; refine ⟨_, run_bytesToString w _ _ _ [] rfl, ?_, _, _, _, rfl⟩
   rw [zaq]; exact ⟨_, rfl, rfl⟩
  obtain ⟨vs, _, h2, h3, _⟩ := hH.manyAt (P := P) hc hi hl
  obtain ⟨h4, h5⟩ := z39 hr h2
  refine ⟨_, run_bytesToString w _ _ _ (r.map fun n : Nat => (n : Int)) (by rw [h3, h4]; simp), ?_, _, _, _, rfl⟩
  rw [zaq]; exact ⟨_, rfl, by rw [zzw _ _ h5]; simp [zbm]⟩
 ·simp only [zae, zc0] at h
  obtain ⟨h1, h⟩ := h
  cases h; rw [zj6.2.1] at h1; subst h1; rw [zaq] at hx; subst hx; exact ⟨.string .empty, rfl, by rw [zaq]; exact ⟨_, rfl, rfl⟩, _, _, _, rfl⟩
theorem zzdo (hT : zdm P C) (hH : zb0 B N μ H w) {s d : Nat} {sty dty : ATy} (hs : C.tys.get s = some sty) (hd : C.tys.get d = some dty) {a : zab} {x : Value} (hx : zaq μ a x) (h : znx C sty dty a H = some v) :
  ∃ v', (convert s d x).run P w = .ok v' w /\ zaq μ v v' := by
 have hS := hT.facts hs
 have hD := hT.facts hd
 obtain ⟨su, hsu⟩ := hS.und
 unfold znx at h; split at h
 ·rename_i k hk
  simp only [zad, zn0] at h; obtain ⟨n, ⟨k', rfl⟩, h⟩ := h
  cases h; rw [zaq] at hx; subst hx; refine ⟨.int k (k.wrap n), ?_, by rw [zaq, zc6]⟩
  simp only [convert, Sem.run_bind, zbe hsu, zbe (zuq hD hk), Result.andThen_ok]
  rfl
 ·simp only [zae] at h
  obtain ⟨hstr, h⟩ := h
  rw [zar] at h; split at h
  ·rename_i ht
   cases h
   cases v <;> simp [zab.tag, Nat.beq] at ht
   have hx' := hx
   rw [zaq] at hx; obtain ⟨str, rfl, _⟩ := hx
   refine ⟨.string str, ?_, hx'⟩
   simp only [convert, Sem.run_bind, zbe hsu, zbe (zjk hD hstr), Result.andThen_ok]
   cases su <;> rfl
  ·simp only [zad, zae, ze3] at h
   obtain ⟨el, hel, et, het, k, hk, rfl, h⟩ := h
   obtain ⟨v', h1, h2, A, l, c, rfl⟩ := zw0 (P := P) hH hx h
   exact ⟨v', by rw [run_convert_bytes_string w s d el A l c (zcu hS hel) (zuq (hT.facts het) hk) (zjk hD hstr)]; exact h1, h2⟩
theorem z1o (hT : zdm P C) (hH : zb0 B N μ H w) (hE : zht μ e ρ) {s d : Nat} {x : Operand} (h : zk8 s d x C e H = some v) : LOk P μ w ρ ⟨dst, .convert s d x, type, pos, after, guard⟩ v := by
 unfold zk8 at h; simp only [zad] at h; obtain ⟨a, ha, sty, hs, dty, hd, h⟩ := h
 obtain ⟨v', h1, h2⟩ := zzdo hT hH hs hd (hE _ _ ha) h
 exact ⟨v', by simp only [execOp, Sem.run_bind, h1, Result.andThen_ok, Sem.run_pure], h2⟩
theorem zjm {y : Nat} {a : zab} {n : Nat} (h : zq5 y a = some n) : (∃ k, a = .int k (n : Int)) /\ n <= y := by
 unfold zq5 at h; simp only [zad, zk7, zae, zj2] at h; obtain ⟨m, ⟨k, rfl⟩, hle, h⟩ := h
 cases h; exact ⟨⟨k, rfl⟩, hle⟩
theorem zgn {y y' : Nat} {a : zab} {x : Value} (hx : zaq μ a x) {n : Nat} (h : zq5 y a = some n) (hy : y <= y') (code : BoundsCode) : (Instr.sliceBound x y' code).run P w = .ok n w := by
 obtain ⟨⟨k, rfl⟩, hle⟩ := zjm h
 rw [zaq] at hx; subst hx; have h1 : (0 : Int) <= n /\ (n : Int) <= y' := ⟨by omega, by omega⟩
 simp only [Instr.sliceBound, asIntOf, Sem.run_bind, Sem.run_pure, Result.andThen_ok, Sem.run_ite, if_pos h1]; simp
theorem zet {isSlice : Bool} {len cap cap' : Nat} (hc : cap <= cap') {lo hi : Option zab} {lo' hi' : Option Value}
  (h1 : zzao μ lo lo') (h2 : zzao μ hi hi')
  {p : Nat × Nat} (h : zhp len cap lo hi = some p) : (Instr.sliceBounds isSlice len cap' lo' hi' none).run P w = .ok (p.1, p.2, cap') w /\ p.1 <= p.2 /\ (p.2 <= cap \/ p.2 = len) := by
 unfold zhp at h; simp only [zad] at h; obtain ⟨hb, hhi, l, hlo, h⟩ := h
 cases h; have hH : hb <= cap \/ hb = len := by
  cases hi with
  | none => right; cases hhi; rfl
  | some a => left; exact (zjm hhi).2
 have hL : l <= hb := by
  cases lo with
  | none => cases hlo; omega
  | some a => exact (zjm hlo).2
 refine ⟨?_, hL, hH⟩
 unfold Instr.sliceBounds
 cases hi with
 | none =>
  cases hi' with
  | some v => exact h2.elim
  | none =>
   cases hhi
   cases lo with
   | none =>
    cases lo' with
    | some v => exact h1.elim
    | none => cases hlo; simp
   | some a =>
    cases lo' with
    | none => exact h1.elim
    | some v => simp [zgn (P := P) (w := w) h1 hlo (yal _)]
 | some b =>
  cases hi' with
  | none => exact h2.elim
  | some u =>
   cases lo with
   | none =>
    cases lo' with
    | some v => exact h1.elim
    | none => cases hlo; simp [zgn (P := P) (w := w) h2 hhi hc]
   | some a =>
    cases lo' with
    | none => exact h1.elim
    | some v => simp [zgn (P := P) (w := w) h2 hhi hc, zgn (P := P) (w := w) h1 hlo (yal _)]
theorem zlh {b size cap l : Nat} {arr : Bool} (hH : zb0 B N μ H w) {i : BI} (hi : μ b = some i) (h : zcw H b size cap l arr = true) :
  i.tight = true \/ (i.tight = false /\ arr = false /\ i.es = size /\ (cap ≠ l \/ l = 0)) := by
 unfold zcw at h; split at h
 ·rename_i c hc
  obtain ⟨o, h2, h3⟩ := hH.blk _ _ _ (zek hc) hi
  obtain ⟨cs, elem, fr, _, _, _, _, h4⟩ := h3
  split at h
  ·rename_i hn; rw [hn] at h4; exact .inl h4
  ·rename_i es hes
   rw [hes] at h4; simp only [yac, Bool.or_eq_true, Bool.not_eq_true', zc0, beqf] at h; exact .inr ⟨h4.1, h.1.1, h4.2.1.trans h.1.2, h.2⟩
 ·cases h
theorem z4b {len cap : Nat} {lo hi : Option zab} {p : Nat × Nat} (h : zhp len cap lo hi = some p) : p.1 <= p.2 := by
 unfold zhp at h; simp only [zad] at h; obtain ⟨hb, hhi, l, hlo, h⟩ := h
 cases h
 cases lo with
 | none => cases hlo; exact Nat.zero_le _
 | some a => exact (zjm hlo).2
theorem zpw (hT : zdm P C) (hH : zb0 B N μ H w) {arr : Bool} {el b off len cap cap' : Nat} {lo hi : Option zab} {i : BI} (hi' : μ b = some i)
  (hcap : cap <= cap') (ht : i.tight = true -> cap' = cap) (hr : i.tight = false -> arr = false -> off + cap' * i.es <= i.room) (h : zd6 C H arr el b off len cap lo hi = some v) :
  ∃ p size, zhp len cap lo hi = some p /\ (sizeOf el).run P w = .ok size w ∧
   zaq μ v (.slice (some (if cap' = p.1 then ⟨i.b, off, none⟩ else Addr.add ⟨i.b, off, none⟩ (p.1 * size))) (p.2 - p.1) (cap' - p.1)) := by
 unfold zd6 at h; simp only [zad, zae, yac, zj2] at h; obtain ⟨et, het, p, hp, ⟨hle, hf⟩, h⟩ := h
 cases h; have hle' := z4b hp
 refine ⟨p, et.size, hp, (hT.facts het).size, ?_⟩
 rw [zaq]; have hoff : (if cap' = p.1 then (⟨i.b, off, none⟩ : Addr) else Addr.add ⟨i.b, off, none⟩ (p.1 * et.size)) = ⟨i.b, (bif Nat.beq cap p.1 then off else off + p.1 * et.size), none⟩ := by
  rw [zm6, zar]; simp only [zc0]; rcases zlh hH hi' hf with h1 | ⟨_, _, _, h1⟩
  ·rw [ht h1]; split <;> rfl
  ·by_cases hc : cap = p.1
   ·have h2 : p.1 = 0 := h1.resolve_left fun k => k hc
    rw [if_pos hc, h2]; split <;> simp
   ·rw [if_neg hc, if_neg (by omega)]
 refine .inl ⟨i, cap' - p.1, hi', by rw [hoff], by omega, fun h1 => by rw [ht h1], fun h1 => ?_⟩
 rcases zlh hH hi' hf with h2 | ⟨_, h3, h4, h5⟩
 ·rw [h1] at h2; cases h2
 ·have h6 := hr h1 h3
  rw [zar]; simp only [zc0]; rw [h4] at h6 ⊢
  have h8 : p.1 * et.size + (cap' - p.1) * et.size = cap' * et.size := by rw [<- yap]; congr 1; omega
  split
  ·omega
  ·omega
theorem zwe (hT : zdm P C) (hH : zb0 B N μ H w) (hE : zht μ e ρ) {t : Nat} {x : Operand} {lo hi mx : Option Operand} (h : (zmn t x lo hi mx).f C e H = some v) :
  LOk P μ w ρ ⟨dst, .slice t x lo hi mx, type, pos, after, guard⟩ v := by
 unfold zmn at h; split at h
 ·simp only [zmo, zad] at h
  obtain ⟨a, ha, l, hl, u, hu, ty, hty, h⟩ := h
  have hx := hE _ _ ha
  have h1 := hE.opt hl
  have h2 := hE.opt hu
  have hF := hT.facts hty
  have run : ∀ {v'}, (Instr.sliceAt t (ρ x) (lo.map ρ) (hi.map ρ) none).run P w = .ok v' w -> (execOp ρ ⟨dst, .slice t x lo hi none, type, pos, after, guard⟩).run P w = .ok (.value v') w := by
   intro v' hr; simp only [execOp, Option.map_none, Sem.run_bind, hr, Result.andThen_ok, Sem.run_pure]
  unfold zhy at h; split at h
  ·rename_i s hs
   rw [zcv] at hs; subst hs; rw [zae] at h; obtain ⟨hstr, h⟩ := h
   unfold z0q at h; simp only [zad, zbb, zfe, zjh] at h; obtain ⟨p, hp, h⟩ := h
   cases h; rw [zaq] at hx; obtain ⟨str, hxv, rfl⟩ := hx
   rw [zdv] at hp; obtain ⟨h3, _⟩ := zet (P := P) (w := w) (isSlice := false) (yal _) h1 h2 hp
   refine ⟨.string (str.extract p.1 p.2), run ?_, by rw [zaq]; exact ⟨_, rfl, zln _ _ _⟩⟩
   have hu' := zjk hF hstr
   simp only [Instr.sliceAt, Sem.run_bind, zbe hu', Result.andThen_ok, Instr.slice, hxv]; simp [h3]
  ·split at h
   ·rename_i r hr
    rw [zdp] at hr; subst hr; simp only [zad] at h; obtain ⟨el, hel, h⟩ := h
    rw [zaq] at hx; rcases hx with ⟨i, cap', hi', hxv, hc, ht, hrm⟩ | ⟨k1, k2, k3, k4, A, hxv⟩
    rotate_left
    ·unfold zd6 at h
     simp only [zad, zae, yac, zj2] at h; obtain ⟨et, het, p, hp, _, h⟩ := h
     cases h; obtain ⟨h3, h6, h7⟩ := zet (P := P) (w := w) (isSlice := true) (yal _) h1 h2 hp
     have hp2 : p.2 = 0 := by rcases h7 with h7 | h7 <;> omega
     have hp1 : p.1 = 0 := by omega
     rw [k3, k4] at h3; refine ⟨.slice (some A) 0 0, run ?_, ?_⟩
     ·have hu' := zcu hF hel
      simp only [Instr.sliceAt, Sem.run_bind, zbe hu', Result.andThen_ok, Instr.slice, hxv, h3, Sem.run_pure, (hT.facts het).size, hp1, hp2]
      simp
     ·rw [zaq]
      refine .inr ⟨k1, ?_, by rw [hp1, hp2], by rw [k4, hp1], A, rfl⟩
      rw [k2, k4, hp1]; rfl
    obtain ⟨p, size, hp, h4, h5⟩ := zpw (P := P) (w := w) hT hH hi' hc ht (fun a _ => hrm a) h
    obtain ⟨h3, _⟩ := zet (P := P) (w := w) (isSlice := true) hc h1 h2 hp
    refine ⟨_, run ?_, h5⟩
    have hu' := zcu hF hel
    simp only [Instr.sliceAt, Sem.run_bind, zbe hu', Result.andThen_ok, Instr.slice, hxv, h3, Sem.run_pure, h4]; congr 2
    split <;> rfl
   ·split at h
    ·rename_i q hq
     rw [zg2] at hq; subst hq; simp only [zad] at h; obtain ⟨ar, har, h⟩ := h
     rw [zaq] at hx; obtain ⟨i, hi', hxv⟩ := hx
     obtain ⟨p, size, hp, h4, h5⟩ := zpw (P := P) (w := w) hT hH hi' (yal _) (fun _ => rfl) (fun _ h => by cases h) h
     obtain ⟨h3, _⟩ := zet (P := P) (w := w) (isSlice := false) (yal _) h1 h2 hp
     refine ⟨_, run ?_, h5⟩
     have hu' := zpc hF har
     simp only [Instr.sliceAt, Sem.run_bind, zbe hu', Result.andThen_ok, hxv, Instr.sureAddr, h3, Sem.run_pure, h4]
    ·simp only [zae, zc0, zad] at h
     obtain ⟨htag, el, hel, ety, hety, p, hp, h⟩ := h
     cases h; rw [zj6.2.1] at htag; subst htag; rw [zaq] at hx; obtain ⟨h3, h6, h7⟩ := zet (P := P) (w := w) (isSlice := true) (yal 0) h1 h2 hp
     have hp2 : p.2 = 0 := by omega
     have hp1 : p.1 = 0 := by omega
     rw [hp1, hp2] at h3; refine ⟨.slice none 0 0, run ?_, by rw [zaq]⟩
     have hu' := zcu hF hel
     simp only [Instr.sliceAt, Sem.run_bind, zbe hu', Result.andThen_ok, Instr.slice, hx, h3, Sem.run_pure, (hT.facts hety).size]
     simp
 ·cases h
end
end Go.Am
namespace Go.Am
open Go
section
variable {P : Program} {C : Ctx} {B N : Nat} {μ : Mu} {H : zai} {w : World}
variable {e : Env} {ρ : Operand -> Value} {dst : Option Tmp} {type : TypeId} {pos : String} {after : Array Edge} {guard : Option (Nat × Bool)} {v : zab}
theorem zmp (hT : zdm P C) (hE : zht μ e ρ) {t : Nat} {x i : Operand} (h : zdj t x i C e H = some v) : LOk P μ w ρ ⟨dst, .indexAddr t x i, type, pos, after, guard⟩ v := by
 unfold zdj at h; simp only [zad, zk7] at h; obtain ⟨ty, hty, a, ha, iv, hi, n, ⟨k, rfl⟩, h⟩ := h
 have hF := hT.facts hty
 have hx := hE _ _ ha
 have hiv := hE _ _ hi
 rw [zaq] at hiv; split at h
 ·rename_i s hs
  rw [zdp] at hs; subst hs; simp only [zad, zae, zdl] at h; obtain ⟨el, hel, et, het, hlt, h⟩ := h
  cases h; rw [zaq] at hx; rcases hx with ⟨j, cap', hj, hxv, _⟩ | ⟨_, _, k, _⟩
  rotate_left
  ·rw [k] at hlt; exact absurd hlt (Nat.not_lt_zero _)
  refine ⟨.pointer (some ⟨j.b, s.2.1 + n * et.size, none⟩), ?_, by rw [zaq]; exact ⟨j, hj, rfl⟩⟩
  have h1 : (0 : Int) <= (n : Int) /\ (n : Int) < (s.2.2.1 : Int) := ⟨by omega, by omega⟩
  simp only [execOp, Instr.indexAt, hiv, hxv, asIntOf, Sem.run_bind, Sem.run_pure, Result.andThen_ok, zbe (zcu hF hel), (hT.facts het).size, Sem.run_ite, if_pos h1, Int.toNat_natCast, zm6]
 ·simp only [zad, zg2, zae, zdl] at h
  obtain ⟨p, rfl, ar, har, et, het, hlt, h⟩ := h
  cases h; rw [zaq] at hx; obtain ⟨j, hj, hxv⟩ := hx
  refine ⟨.pointer (some ⟨j.b, p.2 + n * et.size, none⟩), ?_, by rw [zaq]; exact ⟨j, hj, rfl⟩⟩
  have h1 : (0 : Int) <= (n : Int) /\ (n : Int) < (ar.1 : Int) := ⟨by omega, by omega⟩
  simp only [execOp, Instr.indexAt, hiv, hxv, asIntOf, Sem.run_bind, Sem.run_pure, Result.andThen_ok, zbe (zpc hF har), Instr.sureAddr, (hT.facts het).size, Sem.run_ite, if_pos h1, Int.toNat_natCast, zm6]
theorem zwf (hT : zdm P C) (hE : zht μ e ρ) {t : Nat} {x i : Operand} (h : zkg t x i C e H = some v) : LOk P μ w ρ ⟨dst, .index t x i, type, pos, after, guard⟩ v := by
 unfold zkg at h; simp only [zad, zk7] at h; obtain ⟨ty, hty, a, ha, iv, hi, n, ⟨k, rfl⟩, h⟩ := h
 have hF := hT.facts hty
 have hx := hE _ _ ha
 have hiv := hE _ _ hi
 rw [zaq] at hiv; split at h
 ·rename_i s hs
  rw [zcv] at hs; subst hs; simp only [zae, zad, zbh] at h; obtain ⟨hstr, b, hb, h⟩ := h
  cases h; rw [zaq] at hx; obtain ⟨str, hxv, rfl⟩ := hx
  rw [z4a, Option.map_eq_some_iff] at hb; obtain ⟨u, hu, rfl⟩ := hb
  refine ⟨.int .u8 u.toNat, ?_, by rw [zaq]; rfl⟩
  simp only [execOp, Instr.index, hiv, hxv, asIntOf, Sem.run_bind, Sem.run_pure, Result.andThen_ok, zbe (zjk hF hstr), Int.natCast_nonneg, if_true, Int.toNat_natCast, hu]
 ·simp only [zad, zi5, zae, zdl] at h
  obtain ⟨l, rfl, ar, har, et, het, hlt, h⟩ := h
  rw [zaq] at hx; obtain ⟨cs, hxv, hl⟩ := hx
  obtain ⟨v', h2, h3⟩ := zo4 (P := P) (w := w) hT hl h
  refine ⟨v', ?_, h3⟩
  have h1 : (0 : Int) <= (n : Int) /\ (n : Int) < (ar.1 : Int) := ⟨by omega, by omega⟩
  simp only [execOp, Instr.index, hiv, hxv, asIntOf, Sem.run_bind, Sem.run_pure, Result.andThen_ok, zbe (zpc hF har), (hT.facts het).size, Sem.run_ite, if_pos h1, Int.toNat_natCast, h2]
theorem zrs (l : List Value) : ∀ (off k : Nat) (cs : Array Value), off + k + l.length <= cs.size →
  ((l.zipIdx k).foldl (fun cs (c, j) => cs.setIfInBounds (off + j) c) cs).toList = cs.toList.take (off + k) ++ l ++ cs.toList.drop (off + k + l.length) := by
 induction l with
 | nil => intro off k cs _; simp
 | cons a l ih =>
  intro off k cs h; rw [List.zipIdx_cons, List.foldl_cons, ih off (k + 1) _ (by simp at h ⊢; omega)]
  have hk : off + k < cs.toList.length := by simp at h ⊢; omega
  simp only [Array.toList_setIfInBounds]; rw [List.take_set, List.drop_set_of_lt (by omega)]
  rw [show off + (k + 1) = off + k + 1 by omega, List.take_succ_eq_append_getElem hk, List.set_append_right _ _ (by simp; omega)]
  simp only [yba, List.length_take, Array.length_toList, yao]; rw [Nat.min_eq_left (by simpa using Nat.le_of_lt hk), Nat.sub_self]
  rw [show off + k + (l.length + 1) = off + k + 1 + l.length by omega]
  rfl
theorem zpb {place : Nat -> Option (Nat × Nat)} {ps : List (Nat × zab)} {qs : List (Nat × Value)} (hp : zec (fun p q => p.1 = q.1 /\ zaq μ p.2 q.2) ps qs) :
  ∀ {cells r : List zab} {cs : Array Value}, zby μ cells cs.toList -> zoz place ps cells = some r -> ∃ out, Instr.fill place cs qs = some out /\ zby μ r out.toList := by
 induction hp with
 | nil => intro cells r cs hc h; rw [zoz] at h; cases h; exact ⟨cs, rfl, hc⟩
 | @cons p q ps qs hpq _ ih =>
  intro cells r cs hc h; rw [zoz] at h; simp only [zad] at h; obtain ⟨pl, hpl, mid, hmid, h⟩ := h
  unfold znu at hmid; simp only [zae, yac, zc0, zj2, zbb, zcl, zjh, zfe] at hmid; obtain ⟨⟨h1, h2⟩, hmid⟩ := hmid
  cases hmid; obtain ⟨i, vq⟩ := q
  obtain ⟨rfl, hv⟩ := hpq
  have hvc := zm0 hv
  have hlen := hvc.length
  have hcl := hc.length
  simp only [Array.length_toList] at hlen hcl; rw [Instr.fill, hpl]; simp only []; have h3 : ¬ (vq.cells.size ≠ pl.2 || decide (pl.1 + vq.cells.size > cs.size)) = true := by
   simp; exact ⟨by omega, by omega⟩
  have h4 : ¬ ((decide (vq.cells.size ≠ pl.2) || decide (pl.1 + vq.cells.size > cs.size)) = true) := by simpa using h3
  obtain ⟨off, sz⟩ := pl
  rw [if_neg h4]; refine ih ?_ h
  have h5 := zrs vq.cells.toList off 0 cs (by simp; omega)
  rw [<- Array.foldl_toList, Array.toList_zipIdx, h5]; simp only [Nat.add_zero, Array.length_toList]; have := ((hc.take off).append hvc).append (hc.drop (off + p.2.cells.length))
  rw [yba] at this; rw [hlen]; simpa using this
theorem z25 {g : Array Field} (h : ∀ f ∈ g.toList, ∃ i, P.info? f.type = some i) : (g.mapM fun f => (do pure (f.offset, <- sizeOf f.type) : Sem (Nat × Nat))).run P w = .ok (g.map fun f => (f.offset, P.cellsOf f.type)) w := by
 obtain ⟨l⟩ := g
 rw [List.mapM_toArray]; simp only [Sem.run_map, List.map_toArray]; have key : ∀ l : List Field, (∀ f ∈ l, ∃ i, P.info? f.type = some i) -> (l.mapM fun f => (do pure (f.offset, <- sizeOf f.type) : Sem (Nat × Nat))).run P w = .ok (l.map fun f => (f.offset, P.cellsOf f.type)) w := by
  intro l; induction l with
  | nil => intro _; rfl
  | cons f l ih =>
   intro h; obtain ⟨i, hi⟩ := h f (by simp)
   have h1 : (sizeOf f.type).run P w = .ok (P.cellsOf f.type) w := by simp [sizeOf, zjc hi, Program.cellsOf, hi]
   rw [List.mapM_cons]; simp only [Sem.run_bind, h1, Result.andThen_ok, Sem.run_pure, ih fun f hf => h f (by simp [hf])]
   rfl
 rw [key l (by simpa using h)]
 rfl
theorem zwi (hT : zdm P C) (hE : zht μ e ρ) {t : Nat} {parts : Array (Nat × Operand)} (h : zlk t parts C e H = some v) : LOk P μ w ρ ⟨dst, .build t parts, type, pos, after, guard⟩ v := by
 unfold zlk at h; simp only [zad] at h; obtain ⟨ty, hty, ps, hps, h⟩ := h
 have hF := hT.facts hty
 have hq := hE.parts hps
 obtain ⟨z, hz, _, hzl⟩ := hF.zero (μ := μ)
 split at h
 ·rename_i fs hfs
  simp only [zad, zbh] at h; obtain ⟨l, hl, h⟩ := h
  cases h; obtain ⟨g, hg, rfl⟩ := zjj hF hfs
  have hpl : (fun i : Nat => ob ((g.toList.map fun f => (f.offset, f.type, P.cellsOf f.type))[i]?) fun (x : Nat × Nat × Nat) => some (x.1, x.2.2)) = fun i => (g.map fun f => (f.offset, P.cellsOf f.type))[i]? := by
   funext i
   rw [yav]; simp only [Array.getElem?_map]; have : g.toList[i]? = g[i]? := by simp
   rw [this]
   cases g[i]? <;> rfl
  rw [hpl] at hl; obtain ⟨out, ho, hr⟩ := zpb hq hzl hl
  refine ⟨.agg out, ?_, by rw [zaq]; exact ⟨_, rfl, hr⟩⟩
  have hpr := z25 (P := P) (w := w) (g := g) (by have := hF.fields; rwa [zqw hg] at this)
  simp only [execOp, Instr.build, Sem.run_bind, hz, Result.andThen_ok, zbe hg, hpr, Array.toList_map, ho, Sem.run_pure]
 ·simp only [zad] at h
  obtain ⟨ar, har, et, het, l, hl, h⟩ := h
  cases h; obtain ⟨out, ho, hr⟩ := zpb hq hzl hl
  refine ⟨.agg out, ?_, by rw [zaq]; exact ⟨_, rfl, hr⟩⟩
  simp only [execOp, Instr.build, Sem.run_bind, hz, Result.andThen_ok, zbe (zpc hF har), (hT.facts het).size, Array.toList_map, ho, Sem.run_pure]
theorem zsv (hT : zdm P C) (hE : zht μ e ρ) {x : Operand} {xt asserted : Nat} {ok : Bool} (h : zhi x asserted ok C e H = some v) : LOk P μ w ρ ⟨dst, .typeAssert x xt asserted ok, type, pos, after, guard⟩ v := by
 unfold zhi at h; simp only [zad, zae] at h; obtain ⟨ty, hty, hb, a, ha, h⟩ := h
 have hF := hT.facts hty
 have hx := hE _ _ ha
 obtain ⟨d, hd, hn⟩ := zmy hF hb
 obtain ⟨z, hz, hzr, _⟩ := hF.zero (μ := μ)
 split at h
 ·rename_i p hp
  rw [zoo] at hp; subst hp; rw [zaq] at hx; obtain ⟨x', hxv, hr⟩ := hx
  rw [zar] at h; split at h
  ·rename_i heq
   rw [zc0] at heq
   cases h; refine ⟨if ok then .tuple #[x', .bool true] else x', ?_, ?_⟩
   ·simp only [execOp, Instr.typeAssert, hxv, Sem.run_bind, zbe hd, Result.andThen_ok]
    cases d <;> first | exact absurd rfl (hn _) | simp [heq]
   ·cases ok
    ·exact hr
    ·rw [cond_true, if_pos rfl, zaq]; exact ⟨_, rfl, .cons hr (.single (by rw [zaq]))⟩
  ·rename_i hne
   rw [zc0] at hne; rw [zae] at h; obtain ⟨rfl, h⟩ := h
   cases h; refine ⟨.tuple #[z, .bool false], ?_, by rw [zaq]; exact ⟨_, rfl, .cons hzr (.single (by rw [zaq]))⟩⟩
   simp only [execOp, Instr.typeAssert, hxv, Sem.run_bind, zbe hd, Result.andThen_ok]
   cases d <;> first | exact absurd rfl (hn _) | simp [hne, hz]
 ·simp only [zae, yac, zc0] at h
  obtain ⟨⟨htag, rfl⟩, h⟩ := h
  cases h; rw [zj6.2.2.2.2] at htag; subst htag; rw [zaq] at hx; refine ⟨.tuple #[z, .bool false], ?_, by rw [zaq]; exact ⟨_, rfl, .cons hzr (.single (by rw [zaq]))⟩⟩
  simp only [execOp, Instr.typeAssert, hx, Sem.run_bind, zbe hd, Result.andThen_ok]
  cases d <;> first | exact absurd rfl (hn _) | simp [hz]
theorem zwo {t : Nat} {ty : ATy} (hF : zdc P t ty) (h : ziw ty.desc = true) : P.underlying t = some .bool \/ P.underlying t = some .string \/ ∃ k, P.underlying t = some (.int k) := by
 obtain ⟨D, hD⟩ := hF.und
 have h0 := hF.desc
 unfold zgh at h0; rw [hD] at h0; rw [<- h0] at h; have h1 := zj2.1 h
 cases D <;> simp [zct.tag] at h1
 ·exact .inl hD
 ·exact .inr (.inr ⟨_, hD⟩)
 ·exact .inr (.inl hD)
theorem zsy {a b : zab} {r : Bool} (h : zwm a b = some r) :
  (∃ k x y, a = .int k x /\ b = .int k y /\ r = (x == y)) \/ (∃ x y, a = .str x /\ b = .str y /\ r = zjx x y) \/ (∃ x y, a = .bool x /\ b = .bool y /\ r = (x == y)) := by
 unfold zwm at h; split at h
 ·rename_i x hx
  simp only [zad, zcd, zae, ze3] at h; obtain ⟨y, rfl, hk, h⟩ := h
  cases h; rw [zcd] at hx; exact .inl ⟨x.1, x.2, y.2, hx, by rw [hk], zqt _ _⟩
 ·split at h
  ·rename_i x hx
   simp only [zad, zcv] at h; obtain ⟨y, rfl, h⟩ := h
   cases h; rw [zcv] at hx; exact .inr (.inl ⟨x, y, hx, rfl, rfl⟩)
  ·simp only [zwy, zad, zef] at h
   obtain ⟨x, rfl, y, rfl, h⟩ := h
   cases h; exact .inr (.inr ⟨x, y, rfl, rfl, zon _ _⟩)
def zuw (D : TypeDesc) (a : zab) : Prop := (∃ k, D = .int k /\ a.tag = 1) \/ (D = .string /\ a.tag = 2) \/ (D = .bool /\ a.tag = 0)
theorem zse {D : TypeDesc} {a b : zab} {va vb : Value} (hD : zuw D a) (ha : zaq μ a va) (hb : zaq μ b vb) {r : Bool} (h : zwm a b = some r) : Instr.sameNow D va vb = some r := by
 rcases zsy h with ⟨k, x, y, rfl, rfl, rfl⟩ | ⟨x, y, rfl, rfl, rfl⟩ | ⟨x, y, rfl, rfl, rfl⟩ <;> rw [zaq] at ha <;> rw [zaq] at hb <;>
  rcases hD with ⟨k', rfl, ht⟩ | ⟨rfl, ht⟩ | ⟨rfl, ht⟩ <;> simp [zab.tag] at ht
 ·rw [ha, hb]; simp [Instr.sameNow]
 ·obtain ⟨s, rfl, rfl⟩ := ha
  obtain ⟨u, rfl, rfl⟩ := hb
  have : (s == u) = zjx (zbm s) (zbm u) := by
   rw [Bool.eq_iff_iff, zfi]; have h1 : (s == u) = (s.data == u.data) := rfl
   rw [h1]; exact ⟨fun h => (by unfold zbm; rw [eq_of_beq h]), fun h => (by rw [zk6 h]; exact beq_self_eq_true u.data)⟩
  simp only [Instr.sameNow, this]
 ·rw [ha, hb]; rfl
theorem z3z {D : TypeDesc} {k : zab} {kv : Value} (hD : zuw D k) (hk : zaq μ k kv) {l : List (zab × zab)} {es : List MapEntry} (hl : zec (fun p e => zaq μ p.1 e.key /\ zaq μ p.2 e.val) l es) :
  ∀ {i : Nat} {r : Option zab}, zuj k l = some r -> match r with
   | none => Instr.findNow D kv es i = some none
   | some v => ∃ j v', Instr.findNow D kv es i = some (some (j, v')) /\ zaq μ v v' := by
 induction hl with
 | nil => intro i r h; rw [zuj] at h; cases h; rfl
 | @cons p e l es hpe _ ih =>
  intro i r h; rw [zuj, zad] at h; obtain ⟨q, hq, h⟩ := h
  have h1 := zse hD hk hpe.1 hq
  cases q with
  | true =>
   rw [cond_true] at h
   cases h; exact ⟨i, e.val, by rw [Instr.findNow, h1], hpe.2⟩
  | false =>
   rw [cond_false] at h; have := ih (i := i + 1) h
   rw [Instr.findNow, h1]; exact this
theorem zq2 {D : TypeDesc} {t : Nat} {empty : Bool} {d : Nat} {kv : Value} (hu : P.underlying t = some D) (hD : (∃ k, D = .int k) \/ D = .string \/ D = .bool) : (Instr.checkKey empty (d + 1) t kv).run P w = .ok () w := by
 rw [Instr.checkKey, Sem.run_bind, zbe hu, Result.andThen_ok]; rcases hD with ⟨k, rfl⟩ | rfl | rfl <;> rfl
theorem zl0 {b : Nat} {l : List (zab × zab)} (h : zgj H b = some l) : H.t.get b = some (.map l) := by
 unfold zgj at h; rw [zad] at h; obtain ⟨x, hx, h⟩ := h
 cases x <;> simp [zal.asMap] at h
 subst h; exact hx
theorem zb0.mapAt (hH : zb0 B N μ H w) {b : Nat} {l : List (zab × zab)} (h : zgj H b = some l) {i : BI} (hi : μ b = some i) :
  ∃ es clock, w.heap[i.b]? = some (.map es clock) /\ zec (fun p e => zaq μ p.1 e.key /\ zaq μ p.2 e.val) l es.toList := by
 obtain ⟨o, h2, h3⟩ := hH.blk _ _ _ (zl0 h) hi
 obtain ⟨es, clock, rfl, h4⟩ := h3
 exact ⟨es, clock, h2, h4⟩
theorem zim {r : Nat} {o : Obj} (h : w.heap[r]? = some o) (hc : ∀ a b c, o ≠ .cells a b c) : (getObj r).run P w = .ok o w := by
 simp only [getObj, Sem.run, h]
theorem zsw {t : Nat} {ty : ATy} {D : TypeDesc} (hF : zdc P t ty) (hu : P.underlying t = some D) (hk : ziw ty.desc = true) {k : zab} (h : zsx ty.desc k = true) : zuw D k := by
 have h0 := hF.desc
 unfold zgh at h0; rw [hu] at h0; rw [<- h0] at h; unfold zsx at h; rw [zc0] at h; rcases zwo hF hk with h1 | h1 | ⟨kk, h1⟩
 ·rw [hu] at h1; cases h1; exact .inr (.inr ⟨rfl, h.symm⟩)
 ·rw [hu] at h1; cases h1; exact .inr (.inl ⟨rfl, h.symm⟩)
 ·rw [hu] at h1; cases h1; exact .inl ⟨kk, rfl, h.symm⟩
theorem zst (hT : zdm P C) (hH : zb0 B N μ H w) (hE : zht μ e ρ) {t : Nat} {x i : Operand} {ok : Bool} (h : zhh t x i ok C e H = some v) : LOk P μ w ρ ⟨dst, .lookup t x i ok, type, pos, after, guard⟩ v := by
 unfold zhh at h; simp only [zad, zae] at h; obtain ⟨ty, hty, ke, hke, kty, hkty, hkd, ety, hety, m, hm, es, hes, k, hk, hfit, r, hr, h⟩ := h
 have hF := hT.facts hty
 have hKF := hT.facts hkty
 have hEF := hT.facts hety
 obtain ⟨D, hD⟩ := hKF.und
 have hfits := zsw hKF hD hkd hfit
 have hD' : (∃ k, D = .int k) \/ D = .string \/ D = .bool := by
  rcases hfits with ⟨k, h, _⟩ | ⟨h, _⟩ | ⟨h, _⟩
  ·exact .inl ⟨k, h⟩
  ·exact .inr (.inl h)
  ·exact .inr (.inr h)
 have hx := hE _ _ hm
 have hkv := hE _ _ hk
 have hmap : ∃ rs : Array MapEntry, zec (fun p e => zaq μ p.1 e.key /\ zaq μ p.2 e.val) es rs.toList /\ ((ρ x = .map none /\ rs = #[]) \/ ∃ b clock, ρ x = .map (some b) /\ w.heap[b]? = some (.map rs clock)) := by
  unfold zrv at hes; split at hes
  ·rename_i b hb
   rw [znz] at hb; subst hb; rw [zaq] at hx; obtain ⟨j, hj, hxv⟩ := hx
   obtain ⟨rs, clock, h1, h2⟩ := hH.mapAt hes hj
   exact ⟨rs, h2, .inr ⟨_, _, hxv, h1⟩⟩
  ·simp only [zae, zc0] at hes
   obtain ⟨htag, hes⟩ := hes
   cases hes; rw [zj6.2.2.1] at htag; subst htag; rw [zaq] at hx; exact ⟨#[], .nil, .inl ⟨hx, rfl⟩⟩
 obtain ⟨rs, h1, h2⟩ := hmap
 have hfk : ∀ (q : Option (Nat × Value)), Instr.findNow D (ρ i) rs.toList 0 = some q -> (Instr.findKey ke.1 (ρ i) rs.toList).run P w = .ok q w := by
  intro q hq; unfold Instr.findKey; simp only [Sem.run_bind, zbe hD, Result.andThen_ok, hq, Sem.run_pure]
 have h3 := z3z hfits hkv h1 (i := 0) hr
 have hu := z2a hF hke
 obtain ⟨z, hz, hzr, _⟩ := hEF.zero (μ := μ)
 have hck := fun b => zq2 (P := P) (w := w) (empty := b) (d := 9999) (kv := ρ i) hD hD'
 cases r with
 | none =>
  cases h; refine ⟨if ok then .tuple #[z, .bool false] else z, ?_, ?_⟩
  ·have h4 := hfk _ h3
   simp only [execOp, Instr.lookup]; rcases h2 with ⟨h5, rfl⟩ | ⟨b, clock, h5, h6⟩
   ·simp only [Sem.run_bind, zbe hu, Result.andThen_ok, h5, Sem.run_pure, hck, h4, hz]
   ·simp only [Sem.run_bind, zbe hu, Result.andThen_ok, h5, zim h6 (by simp), Sem.run_pure, hck, h4, hz]
  ·cases ok
   ·exact hzr
   ·rw [cond_true, if_pos rfl, zaq]; exact ⟨_, rfl, .cons hzr (.single (by rw [zaq]))⟩
 | some u =>
  obtain ⟨j, v', h4, h5⟩ := h3
  have h6 := hfk _ h4
  cases h; refine ⟨if ok then .tuple #[v', .bool true] else v', ?_, ?_⟩
  ·simp only [execOp, Instr.lookup]
   rcases h2 with ⟨h7, rfl⟩ | ⟨b, clock, h7, h8⟩
   ·simp only [Sem.run_bind, zbe hu, Result.andThen_ok, h7, Sem.run_pure, hck, h6]
   ·simp only [Sem.run_bind, zbe hu, Result.andThen_ok, h7, zim h8 (by simp), Sem.run_pure, hck, h6]
  ·cases ok
   ·exact h5
   ·rw [cond_true, if_pos rfl, zaq]; exact ⟨_, rfl, .cons h5 (.single (by rw [zaq]))⟩
theorem zp3 {s : Sem Value} {v' : Value} (h : s.run P w = .ok v' w) : (do pure (Next.value (<- s)) : Sem Next).run P w = .ok (.value v') w := by
 simp only [Sem.run_bind, h, Result.andThen_ok, Sem.run_pure]
theorem zhd {b : Builtin} {c : Call} (hc : c.callee = .builtin b) : (execOp ρ ⟨dst, .call c, type, pos, after, guard⟩).run P w = (builtin b c.argTypes type (c.args.map fun | .const _ => true | _ => false) (c.args.map ρ)).run P w := by
 simp only [execOp, resolve, hc, Sem.run_bind, Sem.run_pure, Result.andThen_ok, invoke]; rfl
theorem zec.length {α β : Type} {R : α -> β -> Prop} {l : List α} {m : List β} (h : zec R l m) : m.length = l.length := by
 induction h with
 | nil => rfl
 | cons _ _ ih => simp [ih]
theorem z8k (hT : zdm P C) (hH : zb0 B N μ H w) (hE : zht μ e ρ) {c : Call} (hc : c.callee = .builtin .len) (h : z1m c C e H = some v) : LOk P μ w ρ ⟨dst, .call c, type, pos, after, guard⟩ v := by
 unfold z1m at h; simp only [zad, zbh] at h; obtain ⟨t, ht, x, hx, ty, hty, a, ha, n, hn, h⟩ := h
 cases h; have hF := hT.facts hty
 have hv := hE _ _ ha
 obtain ⟨D, hD⟩ := hF.und
 have h0 := hF.desc
 unfold zgh at h0; rw [hD] at h0; have ht' : c.argTypes[0]? = some t := by simpa using ht
 have hx' : (c.args.map ρ)[0]? = some (ρ x) := by
  have : c.args[0]? = some x := by simpa using hx
  simp [this]
 refine ⟨.int .i64 n, ?_, by rw [zaq]; rfl⟩
 rw [zhd hc]; refine zp3 ?_
 simp only [Builtin.len_, ht', hx', Sem.run_bind, zbe hD, Result.andThen_ok]; unfold z78 at hn; rw [<- h0] at hn; split at hn
 ·rename_i s hs
  rw [zcv] at hs; subst hs; simp only [zae, zbb] at hn; obtain ⟨hb, hn⟩ := hn
  cases hn; rw [zaq] at hv; obtain ⟨str, hxv, rfl⟩ := hv
  rw [hxv, zdv]
  cases D <;> simp [zct.isString, zct.tag, Nat.beq] at hb
  rfl
 ·split at hn
  ·rename_i s hs
   rw [zdp] at hs; subst hs; simp only [zae, zc0] at hn; obtain ⟨hb, hn⟩ := hn
   cases hn; rw [zaq] at hv; rcases hv with ⟨j, cap', hj, hxv, _⟩ | ⟨_, _, k, _, A, hxv⟩
   rotate_left
   ·rw [hxv, k]
    cases D <;> simp [zct.tag] at hb
    rfl
   rw [hxv]
   cases D <;> simp [zct.tag] at hb
   rfl
  ·split at hn
   ·rename_i ar har
    cases hn
    cases D <;> simp [zct.asArr] at har
    subst har; rfl
   ·split at hn
    ·rename_i b hb
     rw [znz] at hb; subst hb; simp only [zae, zc0, zad, zbb] at hn; obtain ⟨hb, l, hl, hn⟩ := hn
     cases hn; rw [zaq] at hv; obtain ⟨j, hj, hxv⟩ := hv
     obtain ⟨rs, clock, h1, h2⟩ := hH.mapAt hl hj
     rw [hxv]; have h3 := h2.length
     simp only [Array.length_toList] at h3
     cases D <;> simp [zct.tag] at hb
     simp only [Sem.run_bind, zim h1 (by simp), Result.andThen_ok, h3]
     rfl
    ·simp only [zae, Bool.or_eq_true, yac, zc0] at hn
     obtain ⟨hb, hn⟩ := hn
     cases hn; rcases hb with ⟨hb, htag⟩ | ⟨hb, htag⟩
     ·rw [zj6.2.1] at htag
      subst htag; rw [zaq] at hv; rw [hv]
      cases D <;> simp [zct.tag] at hb
      rfl
     ·rw [zj6.2.2.1] at htag
      subst htag; rw [zaq] at hv; rw [hv]
      cases D <;> simp [zct.tag] at hb
      rfl
theorem ztl {c : Call} {p : zab × zab} (hE : zht μ e ρ) (h : two c e = some p) : ∃ x y, c.args = #[x, y] /\ zaq μ p.1 (ρ x) /\ zaq μ p.2 (ρ y) := by
 unfold two at h; split at h
 ·rename_i x y hxy
  simp only [zad] at h; obtain ⟨a, ha, b, hb, h⟩ := h
  cases h; refine ⟨x, y, ?_, hE _ _ ha, hE _ _ hb⟩
  rw [<- Array.toList_inj, hxy]
 ·cases h
theorem z8g (hE : zht μ e ρ) {c : Call} (hc : c.callee = .builtin .max) (h : z8h c C e H = some v) : LOk P μ w ρ ⟨dst, .call c, type, pos, after, guard⟩ v := by
 unfold z8h at h; simp only [zad, zcd] at h; obtain ⟨p, hp, a, ha, b, hb, h⟩ := h
 cases h; obtain ⟨x, y, hxy, h1, h2⟩ := ztl hE hp
 rw [ha, zaq] at h1; rw [hb, zaq] at h2; refine ⟨.int a.1 (if b.2 > a.2 then b.2 else a.2), ?_, ?_⟩
 ·rw [zhd hc, hxy]
  refine zp3 ?_
  simp [Builtin.max_, h1, h2, Builtin.max2]
 ·rw [zaq, zar]; simp only [zqs]
theorem z8e (hE : zht μ e ρ) {c : Call} (hc : c.callee = .builtin .min) (h : z8f c C e H = some v) : LOk P μ w ρ ⟨dst, .call c, type, pos, after, guard⟩ v := by
 unfold z8f at h; simp only [zad, zcd] at h; obtain ⟨p, hp, a, ha, b, hb, h⟩ := h
 cases h; obtain ⟨x, y, hxy, h1, h2⟩ := ztl hE hp
 rw [ha, zaq] at h1; rw [hb, zaq] at h2; refine ⟨.int a.1 (if b.2 < a.2 then b.2 else a.2), ?_, ?_⟩
 ·rw [zhd hc, hxy]
  refine zp3 ?_
  simp [Builtin.min_, h1, h2, Builtin.min2]
 ·rw [zaq, zar]; simp only [zqs]
theorem zzaj (hT : zdm P C) (hH : zb0 B N μ H w) (hE : zht μ e ρ) {o : Oper} (h : (zb6 o.op).f C e H = some v) : LOk P μ w ρ o v := by
 obtain ⟨dst, op, type, pos, after, guard⟩ := o
 cases op
 case move => exact z1k (C := C) (H := H) hE h
 case assign => exact zsu (C := C) (H := H) hE h
 case pick => exact z1j (C := C) (H := H) hE h
 case load => exact z1l (C := C) (H := H) hT hH hE h
 case nilCheck => exact z8d (C := C) (H := H) hE h
 case binOp => exact z8n (C := C) (H := H) hT hE h
 case unOp => exact zze2 (C := C) (H := H) hE h
 case convert => exact z1o (C := C) (H := H) hT hH hE h
 case makeInterface => exact zwg (C := C) (H := H) hT hE h
 case makeFunc => exact z1n (C := C) (H := H) hE h
 case slice => exact zwe (C := C) (H := H) hT hH hE h
 case fieldAddr => exact zmq (C := C) (H := H) hT hE h
 case field => exact zwh (C := C) (H := H) hT hE h
 case indexAddr => exact zmp (C := C) (H := H) hT hE h
 case index => exact zwf (C := C) (H := H) hT hE h
 case extract => exact zqp (C := C) (H := H) hE h
 case build => exact zwi (C := C) (H := H) hT hE h
 case typeAssert => exact zsv (C := C) (H := H) hT hE h
 case lookup => exact zst (C := C) (H := H) hT hH hE h
 case call c =>
  have h : (zgb c c.callee).f C e H = some v := h
  unfold zgb at h; split at h
  ·rename_i b hb
   cases b <;> simp only [zt8] at h
   case len => exact z8k (C := C) (H := H) hT hH hE hb h
   case max => exact z8g (C := C) (H := H) hE hb h
   case min => exact z8e (C := C) (H := H) hE hb h
   all_goals cases h
  ·cases h
 all_goals
  have h : zt7 C e H = some v := h
  cases h
end
end Go.Am
namespace Go.Am
open Go Go.RowKit
def Mu.ext (μ : Mu) (a : Nat) (i : BI) : Mu := ⟨fun b => if b = a then some i else μ b, μ.pd⟩
theorem Mu.ext_get {μ : Mu} {a b : Nat} {i : BI} : (μ.ext a i) b = if b = a then some i else μ b := rfl
theorem Mu.ext_le {μ : Mu} {a : Nat} {i : BI} (h : μ a = none) : μ.le (μ.ext a i) := by
 refine ⟨?_, rfl⟩
 intro b j hj; rw [Mu.ext_get]; split
 ·rename_i e; subst e; rw [h] at hj; cases hj
 ·exact hj
theorem Mu.ext_same {μ : Mu} {a : Nat} {i : BI} : μ.ext a i a = some i := by simp [Mu.ext]
theorem zcm.mono {μ ν : Mu} (h : μ.lw ν) {n : Nat} {tm : Tm} {tmps : Array Value} (k : zcm μ n tm tmps) : zcm ν n tm tmps := ⟨k.1, fun i v hv => (k.2 i v hv).mono h _ _⟩
theorem zrl.mono {μ ν : Mu} (h : μ.lw ν) {l : z4j} {r : Loop} (k : zrl μ l r) : zrl ν l r :=
 ⟨k.state, k.pending, k.fn, k.tm.mono h, k.params, k.assign, k.body, by obtain ⟨i, h1, h2⟩ := k.defers; exact ⟨i, h _ _ h1, h2⟩⟩
theorem zec.mono {α β : Type} {R S : α -> β -> Prop} (h : ∀ a b, R a b -> S a b) {l : List α} {m : List β} (k : zec R l m) : zec S l m := by
 induction k with
 | nil => exact .nil
 | cons a _ ih => exact .cons (h _ _ a) ih
theorem zjp.mono {μ ν : Mu} (h : μ.lw ν) {d : zz7} {e : Deferred} (k : zjp μ d e) : zjp ν d e := by
 refine ⟨?_⟩
 have := k.rel
 revert this
 cases d.fn with
 | none => rintro ⟨i, h1, h2⟩; exact ⟨i, h _ _ h1, h2⟩
 | some f => rintro ⟨fn, cap, as, h1, h2, h3⟩; exact ⟨fn, cap, as, h1, h2.mono h, zby.mono h _ _ h3⟩
theorem zm8.mono {μ ν : Mu} (h : μ.lw ν) {i : BI} {x : zal} {o : Obj} (k : zm8 μ i x o) : zm8 ν i x o := by
 cases x with
 | cells c n loose =>
  obtain ⟨cs, elem, fr, h1, h2, h3, h4, h5⟩ := k
  refine ⟨cs, elem, fr, h1, h2, h3, fun j v hv => ?_, h5⟩
  obtain ⟨a, v', c, d⟩ := h4 j v hv
  exact ⟨a, v', c, d.mono h _ _⟩
 | map l => obtain ⟨es, clock, h1, h2⟩ := k; exact ⟨es, clock, h1, h2.mono fun a b r => ⟨r.1.mono h _ _, r.2.mono h _ _⟩⟩
 | loop l => obtain ⟨r, h1, h2⟩ := k; exact ⟨r, h1, h2.mono h⟩
 | deferred l =>
  obtain ⟨l', h1, h2⟩ := k
  refine ⟨l', h1, ?_⟩
  revert h2
  cases l <;> cases l' <;> intro h2 <;> first | trivial | exact h2.elim | exact zec.mono (fun a b r => zjp.mono h r) h2
 | siter s p => exact k
section
variable {P : Program} {C : Ctx} {B N : Nat} {μ : Mu} {H : zai} {w : World}
theorem zb0.lt (hH : zb0 B N μ H w) {a : Nat} {i : BI} (h : μ a = some i) : a < H.next := by
 refine Nat.lt_of_not_le fun hle => ?_
 rw [(hH.fresh a hle).1] at h; cases h
theorem zb0.newBlk (hH : zb0 B N μ H w) {x : zal} {o : Obj} {i : BI} (hib : i.b = w.heap.size) (hro : i.ro = false) (hx : zm8 (μ.ext H.next i) i x o) : zb0 B N (μ.ext H.next i) (newBlk H x) (w.alloc o) := by
 have hle : μ.le (μ.ext H.next i) := Mu.ext_le (hH.fresh _ (yal _)).1
 have hget : ∀ a, (Am.newBlk H x).t.get a = if a = H.next then some x else H.t.get a := fun a => Tr.get_set _ _ _ _
 refine ⟨hH.base, ?_, ?_, ?_, ?_, ?_, ?_, ?_, ?_, fun a y t ha => ?_⟩
 ·intro g hg; rw [Mu.ext_get, if_neg (by have := hH.next; have := hH.base; omega)]; exact hH.glob g hg
 ·intro a y j ha hy hj
  rw [hget, if_neg (by have := hH.next; omega)] at hy
  rw [Mu.ext_get, if_neg (by have := hH.next; omega)] at hj
  exact hH.low a y j ha hy hj
 ·have := hH.next; show B <= H.next + 1; omega
 ·have := hH.size; simp; omega
 ·intro a ha
  have ha' : H.next + 1 <= a := ha
  rw [hget, if_neg (by omega)]
  rw [Mu.ext_get, if_neg (by omega)]
  exact hH.fresh a (by omega)
 ·intro a y j hy hj
  rw [hget] at hy; rw [Mu.ext_get] at hj; split at hy
  ·rename_i e; subst e; cases hy
   rw [if_pos rfl] at hj
   cases hj; refine ⟨o, ?_, hx⟩
   rw [hib]; show (w.heap.push o)[w.heap.size]? = some o; simp
  ·rename_i hne
   rw [if_neg hne] at hj; obtain ⟨q, h2, h3⟩ := hH.blk a y j hy hj
   refine ⟨q, ?_, h3.mono hle⟩
   rw [Below.heap_alloc]; exact h2
   exact (yaf.1 h2).1
 ·intro a j ha hj
  rw [Mu.ext_get] at hj; split at hj
  ·cases hj; rw [hib]; exact ⟨hH.size, by simp, hro⟩
  ·have := hH.own a j ha hj; exact ⟨this.1, by simp; omega, this.2.2⟩
 ·intro a b y z j k hy hz hj hk ha hb hjk
  rw [hget] at hy hz; rw [Mu.ext_get] at hj hk; by_cases ea : a = H.next
  ·by_cases eb : b = H.next
   ·rw [ea, eb]
   ·exfalso
    rw [if_pos ea] at hj; rw [if_neg eb] at hk
    cases hj; have := (hH.own b k hb hk).2.1; omega
  ·by_cases eb : b = H.next
   ·exfalso
    rw [if_neg ea] at hj; rw [if_pos eb] at hk
    cases hk; have := (hH.own a j ha hj).2.1; omega
   ·rw [if_neg ea] at hy hj; rw [if_neg eb] at hz hk
    exact hH.inj a b y z j k hy hz hj hk ha hb hjk
 ·obtain ⟨h1, h2, h3⟩ := hH.pnd a y t ha
  have hne : a ≠ H.next := fun e => by rw [e, (hH.fresh _ (yal _)).2] at h2; cases h2
  exact ⟨by rw [Mu.ext_get, if_neg hne]; exact h1, by rw [hget, if_neg hne]; exact h2, h3⟩
theorem zb0.drew (hH : zb0 B N μ H w) : zb0 B N μ H w.drew := ⟨hH.base, hH.glob, hH.low, hH.next, hH.size, hH.fresh, hH.blk, hH.own, hH.inj, hH.pnd⟩
def World.setBlk (w : World) (g : Nat) (o : Obj) : World := { w with heap := w.heap.setIfInBounds g o }
theorem ztx (w : World) (g : Nat) (a b : Obj) : World.setBlk (World.setBlk w g a) g b = World.setBlk w g b := by
 unfold World.setBlk; simp
theorem zg0 (w : World) (g k : Nat) (o : Obj) : (World.setBlk w g o).heap[k]? = if k = g /\ g < w.heap.size then some o else w.heap[k]? := by
 unfold World.setBlk; simp only [Array.getElem?_setIfInBounds]; by_cases h : g = k
 ·subst h
  by_cases h2 : g < w.heap.size
  ·simp [h2]
  ·rw [if_pos rfl, if_neg h2, if_neg (fun h => h2 h.2)]; exact (Array.getElem?_eq_none (by omega)).symm
 ·rw [if_neg h, if_neg (fun e => h e.1.symm)]
theorem zrt {g j : Nat} {cur : Array Value} {t : TypeId} {fz : Nat × Nat} {v : Value} (h : w.heap[g]? = some (.cells cur t fz)) : w.setCell ⟨g, j, none⟩ v = World.setBlk w g (.cells (cur.setIfInBounds j v) t fz) := by
 unfold World.setCell World.setBlk; congr 1
 apply Array.ext_getElem?
 intro k; rw [Array.getElem?_modify, Array.getElem?_setIfInBounds]; by_cases e : g = k
 ·subst e
  have hg := (yaf.1 h).1
  rw [if_pos rfl, if_pos rfl, if_pos hg, h]; rfl
 ·rw [if_neg e, if_neg e]
theorem zh2 {g o : Nat} {t : TypeId} {fz : Nat × Nat} : ∀ (vs : List Value) (i : Nat) (cur : Array Value) (w : World), w.heap[g]? = some (.cells cur t fz) -> (fz.2 <= fz.1 \/ cur.size <= fz.1) →
  o + i + vs.length <= cur.size -> (∀ v ∈ vs, v.oneCell' = true) →
  ∃ cur', cur'.size = cur.size /\ (∀ j : Nat, cur'[j]? = if o + i <= j /\ j < o + i + vs.length then vs[j - (o + i)]? else cur[j]?) ∧
   (storeCells ⟨g, o, none⟩ vs i).run P w = .ok () (World.setBlk w g (.cells cur' t fz)) := by
 intro vs; induction vs with
 | nil =>
  intro i cur w h _ _ _; refine ⟨cur, rfl, fun j => by rw [if_neg (by simp)], ?_⟩
  have : World.setBlk w g (.cells cur t fz) = w := by
   unfold World.setBlk; have : w.heap.setIfInBounds g (.cells cur t fz) = w.heap := by
    apply Array.ext_getElem?
    intro k; rw [Array.getElem?_setIfInBounds]; split
    ·rename_i e; subst e; rw [h]; simp [(yaf.1 h).1]
    ·rfl
   rw [this]
  rw [this]; rfl
 | cons v vs ih =>
  intro i cur w h hfz hlen h1; simp only [yao] at hlen; have hg : g < w.heap.size := (yaf.1 h).1
  have hc : w.cell? ⟨g, o + i, none⟩ = some (cur[o + i]'(by omega)) := by simp [World.cell?, h]
  have hf : w.frozen? ⟨g, o + i, none⟩ = false := by
   simp only [World.frozen?, h]; rcases hfz with hfz | hfz
   ·simp; omega
   ·simp; omega
  have hst : (store (Addr.add ⟨g, o, none⟩ i) v).run P w = .ok () (World.setBlk w g (.cells (cur.setIfInBounds (o + i) v) t fz)) := by
   rw [zm6, run_store P w _ _ _ (h1 v (by simp)), hc]
   simp only [hf]; rw [<- zrt h]; rfl
  obtain ⟨cur', hs, hj, hr⟩ := ih (i + 1) (cur.setIfInBounds (o + i) v) (World.setBlk w g (.cells (cur.setIfInBounds (o + i) v) t fz)) (by rw [zg0, if_pos ⟨rfl, hg⟩]) (by simpa using hfz) (by simp; omega) (fun u hu => h1 u (by simp [hu]))
  refine ⟨cur', by simpa using hs, fun j => ?_, ?_⟩
  ·rw [hj, Array.getElem?_setIfInBounds]
   by_cases e : j = o + i
   ·subst e
    rw [if_neg (by omega), if_pos rfl, if_pos (by omega), if_pos (by simp)]
    simp
   ·by_cases e2 : o + (i + 1) <= j /\ j < o + (i + 1) + vs.length
    ·rw [if_pos e2, if_pos (by simp; omega)]
     rw [show j - (o + i) = (j - (o + (i + 1))) + 1 by omega]; simp
    ·rw [if_neg e2, if_neg (by omega), if_neg (by simp; omega)]
  ·rw [storeCells]
   simp only [Sem.run_bind, hst, Result.andThen_ok, hr, ztx]
theorem zb0.upd (hH : zb0 B N μ H w) {a : Nat} {x x' : zal} {i : BI} {o' : Obj} (hx : H.t.get a = some x) (hi : μ a = some i) (ha : B <= a) (hb : zm8 μ i x' o') : zb0 B N μ (setBlk H a x') (World.setBlk w i.b o') := by
 have hget : ∀ b, (Am.setBlk H a x').t.get b = if b = a then some x' else H.t.get b := fun b => Tr.get_set _ _ _ _
 have hlt := (hH.own a i ha hi).2.1
 refine ⟨hH.base, hH.glob, ?_, hH.next, ?_, ?_, ?_, ?_, ?_, fun b y t hb => ?_⟩
 ·intro b y j hb hy hj; rw [hget, if_neg (by omega)] at hy; exact hH.low b y j hb hy hj
 ·have := hH.size; simpa [World.setBlk] using this
 ·intro b hb
  have hb' : H.next <= b := hb
  have := hH.lt hi
  rw [hget, if_neg (by omega)]
  exact hH.fresh b hb'
 ·intro b y j hy h1
  rw [hget] at hy; split at hy
  ·rename_i e; subst e; cases hy
   rw [hi] at h1; cases h1; exact ⟨o', by rw [zg0, if_pos ⟨rfl, hlt⟩], hb⟩
  ·rename_i hne
   obtain ⟨q, h2, h3⟩ := hH.blk b y j hy h1
   refine ⟨q, ?_, h3⟩
   rw [zg0, if_neg]
   ·exact h2
   ·rintro ⟨e, _⟩
    by_cases hb : B <= b
    ·exact hne (hH.inj b a y x j i hy hx h1 hi hb ha e)
    ·have h5 := (hH.low b y j (by omega) hy h1).1
     have h6 := (hH.own a i ha hi).1
     omega
 ·intro b j hb hj; have := hH.own b j hb hj; exact ⟨this.1, by simpa [World.setBlk] using this.2.1, this.2.2⟩
 ·intro b c y z j k hy hz hj hk hb hc hjk
  have key : ∀ b y, (Am.setBlk H a x').t.get b = some y -> ∃ y', H.t.get b = some y' := by
   intro b y hy; rw [hget] at hy; split at hy
   ·rename_i e; subst e; exact ⟨x, hx⟩
   ·exact ⟨y, hy⟩
  obtain ⟨y', hy'⟩ := key b y hy
  obtain ⟨z', hz'⟩ := key c z hz
  exact hH.inj b c y' z' j k hy' hz' hj hk hb hc hjk
 ·obtain ⟨h1, h2, h3⟩ := hH.pnd b y t hb
  have hne : b ≠ a := fun e => by rw [e, hi] at h1; cases h1
  exact ⟨h1, by rw [hget, if_neg hne]; exact h2, h3⟩
theorem zdo {g : Nat} {o : Obj} (h : N <= g) : Below N w (World.setBlk w g o) :=
 ⟨rfl, rfl, rfl, by simp [World.setBlk], fun k hk => by rw [zg0, if_neg (by omega)]⟩
theorem zby.one {l : List zab} : ∀ {vs : List Value}, zby μ l vs -> (∀ a ∈ l, a.one = true) -> ∀ v ∈ vs, v.oneCell' = true := by
 induction l with
 | nil => intro vs h _ v hv; rw [zby] at h; subst h; cases hv
 | cons a l ih =>
  intro vs h k v hv; rw [zby] at h; obtain ⟨u, r, rfl, h1, h2⟩ := h
  rcases yat.1 hv with rfl | hv
  ·exact h1.one (k a (by simp))
  ·exact ih h2 (fun b hb => k b (by simp [hb])) v hv
theorem zm8.write {i : BI} {c : Tr zab} {n : Nat} {loose : Option Nat} {cs cs' : Array Value} {elem : TypeId} {fr : Nat × Nat} (h : zm8 μ i (.cells c n loose) (.cells cs elem fr)) {l : List zab} {vs : List Value} (hl : zby μ l vs)
  {off : Nat} (hoff : off + l.length <= n) (hs : cs'.size = cs.size) (hj : ∀ j : Nat, cs'[j]? = if off <= j /\ j < off + vs.length then vs[j - off]? else cs[j]?) : zm8 μ i (.cells (c.setMany l off) n loose) (.cells cs' elem fr) := by
 obtain ⟨cs0, elem0, fr0, e, h2, h3, h4, h5⟩ := h
 cases e
 have hlen := hl.length
 refine ⟨cs', elem, fr, rfl, by omega, by rw [hs]; exact h3, fun j v hv => ?_, by rw [hs]; exact h5⟩
 rw [Tr.get_setMany] at hv; split at hv
 ·rename_i hjr
  obtain ⟨u, hu, hr⟩ := hl.get hv
  refine ⟨by omega, u, ?_, hr⟩
  rw [hj, if_pos (by omega)]; exact hu
 ·rename_i hjr
  obtain ⟨a, v', d, f⟩ := h4 j v hv
  refine ⟨a, v', ?_, f⟩
  rw [hj, if_neg (by omega)]; exact d
theorem zvl (hbase : B <= C.base) (hH : zb0 B N μ H w) {b off : Nat} {l : List zab} {H' : zai} (h : zhx C H b off l = some H') {i : BI} (hi : μ b = some i) {vs : List Value} (hl : zby μ l vs) :
  ∃ w', (storeCells ⟨i.b, off, none⟩ vs).run P w = .ok () w' /\ zb0 B N μ H' w' /\ Below N w w' := by
 unfold zhx at h; simp only [zae, zad, yac, zj2, zbb, zcb, Bool.not_eq_true'] at h; obtain ⟨hb, c, hc, ⟨hle, hall⟩, h⟩ := h
 cases h; have hb' : B <= b := by
  have : ¬ b < C.base := fun k => by rw [zdl.2 k] at hb; cases hb
  omega
 have hx := zek hc
 obtain ⟨o, h2, h3⟩ := hH.blk _ _ _ hx hi
 have h3' := h3
 obtain ⟨cs, elem, fr, rfl, h4, h5, _, _⟩ := h3
 have hone : ∀ a ∈ l, a.one = true := fun a ha => ybc.1 hall a ha
 have hlen := hl.length
 have hown := hH.own b i hb' hi
 have h5 := h5.resolve_left (by rw [hown.2.2]; simp)
 obtain ⟨cs', hs, hj, hr⟩ := zh2 (P := P) (o := off) vs 0 cs w h2 h5 (by omega) (hl.one hone)
 exact ⟨_, hr, hH.upd hx hi hb' (h3'.write hl hle hs (by simpa using hj)), zdo hown.1⟩
theorem zby.rel_one {l : List zab} {vs : List Value} (hl : zby μ l vs) {i : BI} (ht : i.tight = true) {elem : TypeId} : zm8 μ i (.cells (Tr.ofList l) (zbw l) none) (.cells vs.toArray elem (0, 0)) := by
 have hlen := hl.length
 refine ⟨vs.toArray, elem, (0, 0), rfl, by rw [zbb]; simp [hlen], .inr (.inl (yal _)), fun j v hv => ?_, ht⟩
 rw [Tr.get_ofList] at hv; obtain ⟨u, hu, hr⟩ := hl.get hv
 refine ⟨by rw [zbb]; exact (yad.1 hv).1, u, by simpa using hu, hr⟩
theorem zb0.newTight (hH : zb0 B N μ H w) {l : List zab} {vs : List Value} (hl : zby μ l vs) (elem : TypeId) :
  zb0 B N (μ.ext H.next ⟨w.heap.size, true, 0, 0, false⟩) (za7 H l none) (w.alloc (.cells vs.toArray elem)) :=
 hH.newBlk rfl rfl ((zby.mono (Mu.ext_le (hH.fresh _ (yal _)).1).f _ _ hl).rel_one rfl)
theorem zcc (h : N <= w.heap.size) (o : Obj) : Below N w (w.alloc o) := (Below.refl N w).alloc h o
def Mu.wait (μ : Mu) (a : Nat) (x : zal × Nat × Nat) : Mu := ⟨μ.m, fun b => if b = a then some x else μ.pd b⟩
def Mu.land (μ : Mu) (a : Nat) (i : BI) : Mu := ⟨fun b => if b = a then some i else μ b, fun b => if b = a then none else μ.pd b⟩
theorem zb0.early (hH : zb0 B N μ H w) {x : zal} {t : Nat × Nat} : zb0 B N (μ.wait H.next (x, t)) (Am.newBlk H x) w := by
 have hget : ∀ a, (Am.newBlk H x).t.get a = if a = H.next then some x else H.t.get a := fun a => Tr.get_set _ _ _ _
 have hn := hH.fresh _ (yal _)
 have gone : ∀ a i, μ a = some i -> a ≠ H.next := fun a i h e => by rw [e, hn.1] at h; cases h
 have bm : ∀ i y o, zm8 μ i y o -> zm8 (μ.wait H.next (x, t)) i y o := fun i y o h => zm8.mono (μ := μ) (ν := μ.wait H.next (x, t)) (fun _ _ h => h) h
 refine ⟨hH.base, hH.glob, fun a y i ha hy hi => ?_, by have := hH.next; show B <= H.next + 1; omega, hH.size, fun a ha => ?_, fun a y i hy hi => ?_, hH.own, fun a b y z i j hy hz hi hj => ?_, fun a y s ha => ?_⟩
 ·rw [hget, if_neg (gone a i hi)] at hy; exact hH.low a y i ha hy hi
 ·have ha' : H.next + 1 <= a := ha
  have := hH.fresh a (by omega)
  exact ⟨this.1, by rw [hget, if_neg (by omega)]; exact this.2⟩
 ·rw [hget, if_neg (gone a i hi)] at hy
  obtain ⟨o, h1, h2⟩ := hH.blk a y i hy hi
  exact ⟨o, h1, bm _ _ _ h2⟩
 ·rw [hget, if_neg (gone a i hi)] at hy
  rw [hget, if_neg (gone b j hj)] at hz
  exact hH.inj a b y z i j hy hz hi hj
 ·change (if a = H.next then some (x, t) else μ.pd a) = some (y, s) at ha
  split at ha
  ·rename_i e; cases ha; subst e
   exact ⟨hn.1, by rw [hget, if_pos rfl], hH.next⟩
  ·rename_i e
   obtain ⟨h1, h2, h3⟩ := hH.pnd a y s ha
   exact ⟨h1, by rw [hget, if_neg e]; exact h2, h3⟩
theorem zb0.late (hH : zb0 B N μ H w) {a : Nat} {x : zal} {t : Nat × Nat} {o : Obj} {i : BI} (hp : μ.pd a = some (x, t)) (hib : i.b = w.heap.size) (hro : i.ro = false) (hx : zm8 (μ.land a i) i x o) : zb0 B N (μ.land a i) H (w.alloc o) := by
 obtain ⟨p1, p2, p3⟩ := hH.pnd a x t hp
 have lg : ∀ b, (μ.land a i) b = if b = a then some i else μ b := fun _ => rfl
 have hle : μ.lw (μ.land a i) := fun b j hj => by
  rw [lg, if_neg fun e => by rw [e, p1] at hj; cases hj]; exact hj
 have hbase := hH.base
 refine ⟨hH.base, fun g hg => by rw [lg, if_neg (by omega)]; exact hH.glob g hg, fun b y j hb hy hj => ?_, hH.next, by have := hH.size; simp; omega, fun b hb => ?_, fun b y j hy hj => ?_, fun b j hb hj => ?_, fun b c y z j k hy hz hj hk hb hc hjk => ?_, fun b y s hb => ?_⟩
 ·rw [lg, if_neg (by omega)] at hj; exact hH.low b y j hb hy hj
 ·have := hH.fresh b hb
  rw [lg, if_neg fun e => by rw [e, p2] at this; cases this.2]
  exact this
 ·rw [lg] at hj
  split at hj
  ·rename_i e; subst e; cases hj
   rw [p2] at hy; cases hy; exact ⟨o, by rw [hib]; show (w.heap.push o)[w.heap.size]? = some o; simp, hx⟩
  ·obtain ⟨q, h2, h3⟩ := hH.blk b y j hy hj
   refine ⟨q, ?_, h3.mono hle⟩
   rw [Below.heap_alloc]; exact h2
   exact (yaf.1 h2).1
 ·rw [lg] at hj
  split at hj
  ·cases hj; rw [hib]; exact ⟨hH.size, by simp, hro⟩
  ·have := hH.own b j hb hj; exact ⟨this.1, by simp; omega, this.2.2⟩
 ·rw [lg] at hj hk
  by_cases eb : b = a
  ·by_cases ec : c = a
   ·rw [eb, ec]
   ·exfalso
    rw [if_pos eb] at hj; rw [if_neg ec] at hk
    cases hj; have := (hH.own c k hc hk).2.1; omega
  ·by_cases ec : c = a
   ·exfalso
    rw [if_neg eb] at hj; rw [if_pos ec] at hk
    cases hk; have := (hH.own b j hb hj).2.1; omega
   ·rw [if_neg eb] at hj; rw [if_neg ec] at hk
    exact hH.inj b c y z j k hy hz hj hk hb hc hjk
 ·change (if b = a then none else μ.pd b) = some (y, s) at hb
  split at hb
  ·cases hb
  ·rename_i e
   obtain ⟨h1, h2, h3⟩ := hH.pnd b y s hb
   exact ⟨by rw [lg, if_neg e]; exact h1, h2, h3⟩
theorem zb0.ext_le (hH : zb0 B N μ H w) {i : BI} : μ.le (μ.ext H.next i) := Mu.ext_le (hH.fresh _ (yal _)).1
end
end Go.Am
namespace Go.Am
open Go Go.RowKit
section
variable {P : Program} {C : Ctx} {B N : Nat} {μ : Mu} {H H' : zai} {w : World}
variable {e : Env} {ρ : Operand -> Value} {dst : Option Tmp} {type : TypeId} {pos : String} {after : Array Edge} {guard : Option (Nat × Bool)} {v : zab}
def z2h (P : Program) (B N : Nat) (μ : Mu) (w : World) (ρ : Operand -> Value) (o : Oper) (v : zab) (H' : zai) : Prop :=
 ∃ v' w' μ', ((execOp ρ o).run P w = .ok (.value v') w' \/ ((execOp ρ o).run P w = .ok .skip w' /\ v' = undef)) /\ μ.le μ' /\ zb0 B N μ' H' w' /\ Below N w w' /\ zaq μ' v v'
theorem LOk.hv (hH : zb0 B N μ H w) {o : Oper} (h : LOk P μ w ρ o v) : z2h P B N μ w ρ o v H := by
 obtain ⟨v', h1, h2⟩ := h
 exact ⟨v', w, μ, .inl h1, μ.le_refl, hH, Below.refl _ _, h2⟩
theorem zd7 {x : Option (zab × zai)} {v : zab} {H' : zai} (h : zyk x = .val v H') : x = some (v, H') := by
 unfold zyk at h; split at h
 ·injection h with h1 h2; rw [<- h1, <- h2]
 ·cases h
theorem zei {elem : TypeId} {cs : Array Value} : (newRow elem cs).run P w = .ok ⟨w.heap.size, 0, none⟩ (w.alloc (.cells cs elem)) := by
 simp [newRow]
theorem zkv {elem : TypeId} {v : Value} : (newVar elem v).run P w = .ok ⟨w.heap.size, 0, none⟩ (w.alloc (.cells v.cells elem)) := zei
theorem zvc : zaq μ zbr undef := by rw [zbr, zaq]; exact ⟨_, rfl, .nil⟩
theorem z87 (hT : zdm P C) (hH : zb0 B N μ H w) {t : Nat} (h : zqv t C e H = .val v H') : z2h P B N μ w ρ ⟨dst, .alloc t, type, pos, after, guard⟩ v H' := by
 have h := zd7 h
 simp only [zad] at h; obtain ⟨ty, hty, h⟩ := h
 cases h; obtain ⟨z, hz, _, hzl⟩ := (hT.facts hty).zero (μ := μ)
 refine ⟨.pointer (some ⟨w.heap.size, 0, none⟩), w.alloc (.cells z.cells t), _, .inl ?_, hH.ext_le, by have := hH.newTight hzl t; rwa [Array.toArray_toList] at this, zcc hH.size _, by rw [zaq]; exact ⟨_, Mu.ext_same, rfl⟩⟩
 simp only [execOp, Instr.alloc, Sem.run_bind, hz, Result.andThen_ok, zkv, Sem.run_pure]
theorem zzhw (hH : zb0 B N μ H w) (hE : zht μ e ρ) {t : Nat} {x : Operand} (h : zzc5 x C e H = .val v H') : z2h P B N μ w ρ ⟨dst, .box t x, type, pos, after, guard⟩ v H' := by
 have h := zd7 h
 simp only [zad] at h; obtain ⟨a, ha, h⟩ := h
 cases h; refine ⟨.pointer (some ⟨w.heap.size, 0, none⟩), w.alloc (.cells (ρ x).cells t), _, .inl ?_, hH.ext_le, by have := hH.newTight (zm0 (hE _ _ ha)) t; rwa [Array.toArray_toList] at this, zcc hH.size _, by rw [zaq]; exact ⟨_, Mu.ext_same, rfl⟩⟩
 simp only [execOp, Instr.box, Sem.run_bind, zkv, Result.andThen_ok, Sem.run_pure]
theorem zp5 (z : List zab) : ∀ n, (zsj z n).length = n * z.length := by
 intro n; induction n with
 | zero => simp [zsj]
 | succ n ih => rw [zsj, zcl, yah, ih, yap]; omega
theorem zzby (z : List zab) : ∀ (n j : Nat), j < n * z.length -> (zsj z n)[j]? = z[j % z.length]? := by
 intro n; induction n with
 | zero => intro j hj; simp at hj
 | succ n ih =>
  intro j hj; rw [zsj, zcl]; by_cases h : j < z.length
  ·rw [List.getElem?_append_left h, Nat.mod_eq_of_lt h]
  ·rw [yaq (by omega), ih _ (by rw [yap] at hj; omega)]
   congr 1
   rw [Nat.mod_eq_sub_mod (by omega : z.length <= j)]
theorem zym {z : List zab} {zv : Array Value} (hz : zby μ z zv.toList) (n : Nat) : zby μ (zsj z n) ((Array.range (n * z.length)).map (zv[· % zv.size]!)).toList := by
 have hl := hz.length
 simp only [Array.length_toList] at hl; refine zby.mk (by simp [zp5]) fun j a v ha hv => ?_
 have hj : j < n * z.length := by rw [<- zp5]; exact (yad.1 ha).1
 rw [zzby z n j hj] at ha; obtain ⟨u, hu, hr⟩ := hz.get ha
 have hpos : 0 < z.length := by
  rcases Nat.eq_zero_or_pos z.length with h0 | h0
  ·rw [h0] at hj; simp at hj
  ·exact h0
 have hm : j % z.length < z.length := Nat.mod_lt _ hpos
 simp only [Array.toList_map, yav, Array.toList_range, List.getElem?_range hj, Option.map_some, Option.some.injEq] at hv; rw [<- hv, hl]; have : zv[j % z.length]! = u := by
  have h1 : zv[j % z.length]? = some u := by simpa using hu
  rw [getElem!_def, h1]
 rw [this]; exact hr
theorem zrx (hT : zdm P C) (hH : zb0 B N μ H w) (hE : zht μ e ρ) {t len : Nat} {parts : Array (Nat × Operand)} (h : zee t len parts C e H = .val v H') : z2h P B N μ w ρ ⟨dst, .buildSlice t len parts, type, pos, after, guard⟩ v H' := by
 have h := zd7 h
 simp only [zad, zae, yac, zdl, zc0, zbb] at h; obtain ⟨ty, hty, el, hel, et, het, ⟨hlt, hzs⟩, ps, hps, l, hl, h⟩ := h
 cases h; have hF := hT.facts het
 obtain ⟨z, hz, _, hzl⟩ := hF.zero (μ := μ)
 have hzlen := hzl.length
 simp only [Array.length_toList] at hzlen; have hrel := zym hzl len
 rw [hzs] at hrel; obtain ⟨out, ho, hr⟩ := zpb (hE.parts hps) hrel hl
 have hol : out.size = l.length := by simpa using hr.length
 refine ⟨.slice (some ⟨w.heap.size, 0, none⟩) len len, w.alloc (.cells out el), _, .inl ?_, hH.ext_le, by have := hH.newTight hr el; rwa [Array.toArray_toList] at this, zcc hH.size _, ?_⟩
 ·have h1 : ¬ len * et.size > 2 ^ 24 := by omega
  by_cases h0 : len * et.size = 0
  ·have harr : ((Array.range (len * et.size)).map ((#[] : Array Value)[· % (#[] : Array Value).size]!)) = (Array.range (len * et.size)).map (z.cells[· % z.cells.size]!) := by rw [h0]; simp
   simp only [execOp, Instr.buildSlice, Sem.run_bind, zbe (zcu (hT.facts hty) hel), Result.andThen_ok, hF.size, if_neg h1, if_pos h0, Sem.run_pure, harr, Array.toList_map, ho, zei]
  ·simp only [execOp, Instr.buildSlice, Sem.run_bind, zbe (zcu (hT.facts hty) hel), Result.andThen_ok, hF.size, if_neg h1, if_neg h0, Sem.run_pure, hz, Array.toList_map, ho, zei]
 ·rw [zaq]; exact .inl ⟨_, len, Mu.ext_same, rfl, yal _, fun _ => rfl, fun h => by cases h⟩
theorem zzc7 (hT : zdm P C) (hE : zht μ e ρ) (o : Oper) (hf : zgg o.op = true) (h : (aop o.op).f C e H = .val v H') :
  ∃ l vs v' elem, H' = za7 H l none /\ (execOp ρ o).run P w = .ok (.value v') (w.alloc (.cells vs elem)) /\ zby μ l vs.toList /\ ∀ (ν : Mu) (i : BI), ν H.next = some i -> i.b = w.heap.size -> i.tight = true -> zaq ν v v' := by
 obtain ⟨dst, op, type, pos, after, guard⟩ := o
 cases op <;> first | (simp [zgg] at hf; done) | skip
 case alloc t =>
  have h := zd7 (show zqv t C e H = .val v H' from h)
  simp only [zad] at h; obtain ⟨ty, hty, h⟩ := h
  cases h; obtain ⟨z, hz, _, hzl⟩ := (hT.facts hty).zero (μ := μ)
  refine ⟨_, z.cells, .pointer (some ⟨w.heap.size, 0, none⟩), t, rfl, ?_, hzl, fun ν i h1 h2 _ => by rw [zaq]; exact ⟨i, h1, by rw [h2]⟩⟩
  simp only [execOp, Instr.alloc, Sem.run_bind, hz, Result.andThen_ok, zkv, Sem.run_pure]
 case box t x =>
  have h := zd7 (show zzc5 x C e H = .val v H' from h)
  simp only [zad] at h; obtain ⟨a, ha, h⟩ := h
  cases h; refine ⟨_, (ρ x).cells, .pointer (some ⟨w.heap.size, 0, none⟩), t, rfl, ?_, zm0 (hE _ _ ha), fun ν i h1 h2 _ => by rw [zaq]; exact ⟨i, h1, by rw [h2]⟩⟩
  simp only [execOp, Instr.box, Sem.run_bind, zkv, Result.andThen_ok, Sem.run_pure]
 case buildSlice t len parts =>
  have h := zd7 (show zee t len parts C e H = .val v H' from h)
  simp only [zad, zae, yac, zdl, zc0, zbb] at h; obtain ⟨ty, hty, el, hel, et, het, ⟨hlt, hzs⟩, ps, hps, l, hl, h⟩ := h
  cases h; have hF := hT.facts het
  obtain ⟨z, hz, _, hzl⟩ := hF.zero (μ := μ)
  have hrel := zym hzl len
  rw [hzs] at hrel; obtain ⟨out, ho, hr⟩ := zpb (hE.parts hps) hrel hl
  refine ⟨_, out, .slice (some ⟨w.heap.size, 0, none⟩) len len, el, rfl, ?_, hr, fun ν i h1 h2 h3 => by rw [zaq]; exact .inl ⟨i, len, h1, by rw [h2], yal _, fun _ => rfl, fun h => by rw [h3] at h; cases h⟩⟩
  have h1 : ¬ len * et.size > 2 ^ 24 := by omega
  by_cases h0 : len * et.size = 0
  ·have harr : ((Array.range (len * et.size)).map ((#[] : Array Value)[· % (#[] : Array Value).size]!)) = (Array.range (len * et.size)).map (z.cells[· % z.cells.size]!) := by rw [h0]; simp
   simp only [execOp, Instr.buildSlice, Sem.run_bind, zbe (zcu (hT.facts hty) hel), Result.andThen_ok, hF.size, if_neg h1, if_pos h0, Sem.run_pure, harr, Array.toList_map, ho, zei]
  ·simp only [execOp, Instr.buildSlice, Sem.run_bind, zbe (zcu (hT.facts hty) hel), Result.andThen_ok, hF.size, if_neg h1, if_neg h0, Sem.run_pure, hz, Array.toList_map, ho, zei]
theorem z3x {o : Op} (hf : zgg o = true) (h : (aop o).f C e H = .val v H') : ∃ l, H' = za7 H l none := by
 cases o <;> first | (simp [zgg] at hf; done) | skip
 case alloc t =>
  have h := zd7 (show zqv t C e H = .val v H' from h)
  simp only [zad] at h; obtain ⟨ty, hty, h⟩ := h
  cases h; exact ⟨_, rfl⟩
 case box t x =>
  have h := zd7 (show zzc5 x C e H = .val v H' from h)
  simp only [zad] at h; obtain ⟨a, ha, h⟩ := h
  cases h; exact ⟨_, rfl⟩
 case buildSlice t len parts =>
  have h := zd7 (show zee t len parts C e H = .val v H' from h)
  simp only [zad, zae] at h; obtain ⟨ty, hty, el, hel, et, het, _, ps, hps, l, hl, h⟩ := h
  cases h; exact ⟨_, rfl⟩
theorem zzd {e' : Env} (h : ∀ x, ev x e = ev x e') {o : Op} (hf : zgg o = true) (H : zai) : (aop o).f C e H = (aop o).f C e' H := by
 cases o <;> first | (simp [zgg] at hf; done) | rfl | skip
 case box t x => show zzc5 x C e H = zzc5 x C e' H; simp only [zzc5, h]
 case buildSlice t len ps => show zee t len ps C e H = zee t len ps C e' H; simp only [zee, evp, h]
theorem z85 (hT : zdm P C) (hbase : B <= C.base) (hH : zb0 B N μ H w) (hE : zht μ e ρ) {t : Nat} {a x : Operand} (h : z1x t a x C e H = .val v H') : z2h P B N μ w ρ ⟨dst, .store t a x, type, pos, after, guard⟩ v H' := by
 have h := zd7 h
 simp only [zad, zae, zc0, zbb, zg2] at h; obtain ⟨ty, hty, av, ha, p, rfl, xv, hx, hs, H1, h1, h⟩ := h
 cases h; have hF := hT.facts hty
 have hp := hE _ _ ha
 rw [zaq] at hp; obtain ⟨i, hi, hpv⟩ := hp
 have hc := zm0 (hE _ _ hx)
 obtain ⟨w', h2, h3, h4⟩ := zvl (P := P) hbase hH h1 hi hc
 have hcl := hc.length
 simp only [Array.length_toList] at hcl; refine ⟨undef, w', μ, .inr ⟨?_, rfl⟩, μ.le_refl, h3, h4, zvc⟩
 have h5 : ¬ (ρ x).cells.size ≠ ty.size := by omega
 simp only [execOp, Instr.storeAt, hpv, Instr.sureAddr, Sem.run_bind, Sem.run_pure, Result.andThen_ok, storeVar, hF.size, Sem.run_ite, if_neg h5, h2]
theorem zzb (hH : zb0 B N μ H w) {t : Nat} {r : Option Operand} (h : zmt r C e H = .val v H') : z2h P B N μ w ρ ⟨dst, .makeMap t r, type, pos, after, guard⟩ v H' := by
 unfold zmt at h; split at h
 ·injection h with h1 h2
  subst h1 h2
  refine ⟨.map (some w.heap.size), w.alloc (.map #[] 0), _, .inl ?_, hH.ext_le, hH.newBlk (i := ⟨w.heap.size, true, 0, 0, false⟩) rfl rfl ⟨#[], 0, rfl, .nil⟩, zcc hH.size _, by rw [zaq]; exact ⟨_, Mu.ext_same, rfl⟩⟩
  simp [execOp, Instr.makeMap]
 ·cases h
theorem zue (hT : zdm P C) (hH : zb0 B N μ H w) (hE : zht μ e ρ) {t : Nat} {l c : Operand} (h : znr t l c C e H = .val v H') : z2h P B N μ w ρ ⟨dst, .makeSlice t l c, type, pos, after, guard⟩ v H' := by
 have h := zd7 h
 simp only [zad, zae, yac, zj2, zdl, zc0, zbb, zk7] at h; obtain ⟨ty, hty, el, hel, et, het, lv', hl, ln, ⟨k1, rfl⟩, cv, hc, cn, ⟨k2, rfl⟩, ⟨⟨⟨h1, h2⟩, h3⟩, h4⟩, h⟩ := h
 cases h; have hF := hT.facts het
 obtain ⟨z, hz, _, hzl⟩ := hF.zero (μ := μ)
 have hrel := zym hzl cn
 rw [h4] at hrel; have hlv := hE _ _ hl
 rw [zaq] at hlv; have hcv := hE _ _ hc
 rw [zaq] at hcv; obtain ⟨inf, hinf, hsz, hby, _⟩ := hF.info
 refine ⟨.slice (some ⟨w.heap.size, 0, none⟩) ln cn, w.alloc (.cells ((Array.range (cn * et.size)).map (z.cells[· % z.cells.size]!)) el), _, .inl ?_, hH.ext_le, by have := hH.newTight hrel el; rwa [Array.toArray_toList] at this, zcc hH.size _, ?_⟩
 ·have hw1 : IntKind.i64.wrap (ln : Int) = ln := zgw (by simp [kHi]; omega)
  have hw2 : IntKind.i64.wrap (cn : Int) = cn := zgw (by simp [kHi]; omega)
  have hb : (et.bytes : Int) * (cn : Int) = ((cn * et.bytes : Nat) : Int) := by rw [Int.mul_comm]; simp
  have hc1 : (((cn : Int) < 0 || decide ((et.bytes : Int) * (cn : Int) > 2 ^ 48)) || decide ((ln : Int) < 0) || decide ((ln : Int) > (cn : Int))) = false := by
   rw [hb]; simp; omega
  have hnn : ¬ ((((cn : Int) < 0 || decide ((et.bytes : Int) * (cn : Int) > 2 ^ 48)) || decide ((ln : Int) < 0) || decide ((ln : Int) > (cn : Int))) = true) := by rw [hc1]; simp
  by_cases h0 : cn * et.size = 0
  ·have harr : ((Array.range (cn * et.size)).map ((#[] : Array Value)[· % (#[] : Array Value).size]!)) = (Array.range (cn * et.size)).map (z.cells[· % z.cells.size]!) := by rw [h0]; simp
   simp only [execOp, Instr.makeSlice, Sem.run_bind, zbe (zcu (hT.facts hty) hel), Result.andThen_ok, hlv, hcv, asInt, asIntOf, Sem.run_pure, zjc hinf, hby, hw1, hw2, if_neg hnn, run_askRoom, hF.size, Int.toNat_natCast, if_pos h0, harr, zei]
  ·simp only [execOp, Instr.makeSlice, Sem.run_bind, zbe (zcu (hT.facts hty) hel), Result.andThen_ok, hlv, hcv, asInt, asIntOf, Sem.run_pure, zjc hinf, hby, hw1, hw2, if_neg hnn, run_askRoom, hF.size, Int.toNat_natCast, if_neg h0, hz, zei]
 ·rw [zaq]; exact .inl ⟨_, cn, Mu.ext_same, rfl, yal _, fun _ => rfl, fun h => by cases h⟩
end
end Go.Am
namespace Go.Am
open Go Go.RowKit
section
variable {P : Program} {C : Ctx} {B N : Nat} {μ : Mu} {H H' : zai} {w : World}
variable {e : Env} {ρ : Operand -> Value} {dst : Option Tmp} {type : TypeId} {pos : String} {after : Array Edge} {guard : Option (Nat × Bool)} {v : zab}
def zzix (μ : Mu) (p : zab × zab) (e : MapEntry) : Prop := zaq μ p.1 e.key /\ zaq μ p.2 e.val
theorem z3o {a b : zab} {va vb : Value} (ha : zaq μ a va) (hb : zaq μ b vb) (h : zwm a b = some true) : Instr.sameBits 10000 vb va = true := by
 rcases zsy h with ⟨k, x, y, rfl, rfl, hr⟩ | ⟨x, y, rfl, rfl, hr⟩ | ⟨x, y, rfl, rfl, hr⟩ <;> rw [zaq] at ha <;> rw [zaq] at hb
 ·have : x = y := by simpa using hr.symm
  rw [ha, hb, this]; simp [Instr.sameBits]
 ·obtain ⟨s, rfl, rfl⟩ := ha
  obtain ⟨u, rfl, rfl⟩ := hb
  have h1 := zk6 ((zfi _ _).1 hr.symm)
  rw [h1]; show (u == u) = true
  show (u.data == u.data) = true
  simp
 ·have : x = y := by simpa using hr.symm
  rw [ha, hb, this]; simp [Instr.sameBits]
theorem z21 {D : TypeDesc} {k v : zab} {kv vv : Value} (hD : zuw D k) (hk : zaq μ k kv) (hv : zaq μ v vv) {l : List (zab × zab)} {es : List MapEntry} (hl : zec (zzix μ) l es) :
  ∀ {i : Nat} {l' : List (zab × zab)}, zjb k v l = some l' →
   (∃ (j : Nat) (e0 : MapEntry), Instr.findNow D kv es i = some (some (i + j, e0.val)) /\ es[j]? = some e0 /\ Instr.sameBits 10000 e0.key kv = true /\ zec (zzix μ) l' (es.set j { e0 with key := kv, val := vv })) ∨
   (Instr.findNow D kv es i = some none /\ ∀ born, zec (zzix μ) l' (es ++ [⟨kv, vv, born⟩])) := by
 induction hl with
 | nil => intro i l' h; rw [zjb] at h; cases h; exact .inr ⟨rfl, fun born => .cons ⟨hk, hv⟩ .nil⟩
 | @cons p e l es hpe hrest ih =>
  intro i l' h; rw [zjb, zad] at h; obtain ⟨q, hq, h⟩ := h
  have h1 := zse hD hk hpe.1 hq
  cases q with
  | true =>
   rw [cond_true] at h
   cases h; refine .inl ⟨0, e, by rw [Instr.findNow, h1]; simp, by simp, z3o hk hpe.1 hq, ?_⟩
   exact .cons ⟨hk, hv⟩ hrest
  | false =>
   rw [cond_false, zad] at h; obtain ⟨r, hr, h⟩ := h
   cases h; rcases ih (i := i + 1) hr with ⟨j, e0, h2, h3, h4, h5⟩ | ⟨h2, h3⟩
   ·refine .inl ⟨j + 1, e0, ?_, by simpa using h3, h4, ?_⟩
    ·rw [Instr.findNow, h1]; simp only []; rw [h2, show i + 1 + j = i + (j + 1) by omega]
    ·exact .cons hpe h5
   ·exact .inr ⟨by rw [Instr.findNow, h1]; exact h2, fun born => .cons hpe (h3 born)⟩
theorem zg1 {r : Nat} {o o' : Obj} (h : w.heap[r]? = some o) (hc : ∀ a b c, o ≠ .cells a b c) : (setObj r o').run P w = .ok () (World.setBlk w r o') := by
 simp only [setObj, Sem.run, h]; rfl
theorem zv5 (hT : zdm P C) (hbase : B <= C.base) (hH : zb0 B N μ H w) (hE : zht μ e ρ) {t : Nat} {m k x : Operand} (h : znq t m k x C e H = .val v H') :
  ∃ w', (Instr.mapUpdate t (ρ m) (ρ k) (ρ x)).run P w = .ok () w' /\ zb0 B N μ H' w' /\ Below N w w' /\ v = zbr := by
 have h := zd7 h
 simp only [zad, zae, znz, Bool.not_eq_true'] at h; obtain ⟨ty, hty, ke, hke, kty, hkty, hkd, mv, hm, b, rfl, hbb, l, hl, kv, hk, hfit, xv, hx, l', hl', h⟩ := h
 cases h; have hKF := hT.facts hkty
 obtain ⟨D, hD⟩ := hKF.und
 have hfits := zsw hKF hD hkd hfit
 have hD' : (∃ k, D = .int k) \/ D = .string \/ D = .bool := by
  rcases hfits with ⟨k, h, _⟩ | ⟨h, _⟩ | ⟨h, _⟩
  ·exact .inl ⟨k, h⟩
  ·exact .inr (.inl h)
  ·exact .inr (.inr h)
 have hmv := hE _ _ hm
 rw [zaq] at hmv; obtain ⟨i, hi, hmv⟩ := hmv
 obtain ⟨es, clock, h1, h2⟩ := hH.mapAt hl hi
 have hb : B <= b := by
  have : ¬ b < C.base := fun k => by rw [zdl.2 k] at hbb; cases hbb
  omega
 have hown := hH.own b i hb hi
 have hu := z2a (hT.facts hty) hke
 have hck := zq2 (P := P) (w := w) (empty := false) (d := 9999) (kv := ρ k) hD hD'
 have hfk : ∀ (q : Option (Nat × Value)), Instr.findNow D (ρ k) es.toList 0 = some q -> (Instr.findKey ke.1 (ρ k) es.toList).run P w = .ok q w := by
  intro q hq; unfold Instr.findKey; simp only [Sem.run_bind, zbe hD, Result.andThen_ok, hq, Sem.run_pure]
 rcases z21 (i := 0) hfits (hE _ _ hk) (hE _ _ hx) h2 hl' with ⟨j, e0, h3, h4, h5, h6⟩ | ⟨h3, h4⟩
 ·have h4' : es[j]? = some e0 := by simpa using h4
  have hj : j < es.size := (yaf.1 h4').1
  refine ⟨World.setBlk w i.b (.map (es.modify j fun e => { e with key := ρ k, val := ρ x }) clock), ?_, hH.upd (zl0 hl) hi hb ⟨_, clock, rfl, ?_⟩, zdo hown.1, rfl⟩
  ·have h7 := hfk _ h3
   simp only [yax] at h7; simp only [Instr.mapUpdate, Sem.run_bind, zbe hu, Result.andThen_ok, hmv, zim h1 (by simp), hck, h7, h4', Option.map_some, Option.getD_some, Instr.keyThatStays, h5, if_true, Sem.run_pure, zg1 h1 (by simp)]
  ·have : (es.modify j fun e => { e with key := ρ k, val := ρ x }).toList = es.toList.set j { e0 with key := ρ k, val := ρ x } := by
    apply List.ext_getElem?
    intro n; rw [Array.getElem?_toList, Array.getElem?_modify, List.getElem?_set]; by_cases e : j = n
    ·subst e
     rw [if_pos rfl, if_pos rfl, h4', if_pos (by simpa using hj)]; rfl
    ·rw [if_neg e, if_neg e]; simp
   rw [this]; exact h6
 ·refine ⟨World.setBlk w i.b (.map (es.push { key := ρ k, val := ρ x, born := clock }) (clock + 1)), ?_, hH.upd (zl0 hl) hi hb ⟨_, clock + 1, rfl, ?_⟩, zdo hown.1, rfl⟩
  ·have h7 := hfk _ h3
   simp only [Instr.mapUpdate, Sem.run_bind, zbe hu, Result.andThen_ok, hmv, zim h1 (by simp), hck, h7, zg1 h1 (by simp)]
  ·rw [Array.toList_push]; exact h4 clock
theorem zs0 (hT : zdm P C) (hbase : B <= C.base) (hH : zb0 B N μ H w) (hE : zht μ e ρ) {t : Nat} {m k x : Operand} (h : znq t m k x C e H = .val v H') :
  z2h P B N μ w ρ ⟨dst, .mapUpdate t m k x, type, pos, after, guard⟩ v H' /\ z2h P B N μ w ρ ⟨dst, .insert t m k x, type, pos, after, guard⟩ v H' := by
 obtain ⟨w', h1, h2, h3, rfl⟩ := zv5 (P := P) hT hbase hH hE h
 constructor
 all_goals
  refine ⟨undef, w', μ, .inr ⟨?_, rfl⟩, μ.le_refl, h2, h3, zvc⟩
  simp only [execOp, Sem.run_bind, h1, Result.andThen_ok, Sem.run_pure]
theorem zom (s : ByteArray) : zby μ (zfl (zbm s)) (s.data.map fun b => Value.int .u8 b.toNat).toList := by
 refine zby.mk (by simp [zfl, zbm]) fun j a v ha hv => ?_
 unfold zfl zbm at ha; simp only [yav, Array.toList_map] at ha hv
 cases h : s.data.toList[j]? with
 | none => rw [h] at ha; cases ha
 | some b =>
  rw [h] at ha hv; simp at ha hv; rw [<- ha, <- hv, zaq]
theorem zkj (l : List Nat) : (zfl l).length = l.length := by simp [zfl]
theorem zb0.newLoose (hH : zb0 B N μ H w) {l : List zab} {cs : Array Value} {es : Nat} (hlen : l.length <= cs.size) (hl : ∀ (j : Nat) a, l[j]? = some a -> ∃ v, cs[j]? = some v /\ zaq μ a v) (elem : TypeId) (fr : Nat × Nat) (hfr : fr.2 <= fr.1 \/ cs.size <= fr.1) (hmod : l.length % es = 0) :
  zb0 B N (μ.ext H.next ⟨w.heap.size, false, es, cs.size, false⟩) (za7 H l (some es)) (w.alloc (.cells cs elem fr)) := by
 refine hH.newBlk rfl rfl ⟨cs, elem, fr, rfl, by rw [zbb]; exact hlen, .inr hfr, fun j v hv => ?_, rfl, rfl, rfl, by rw [zbb]; exact hmod⟩
 rw [Tr.get_ofList] at hv; obtain ⟨u, hu, hr⟩ := hl j v hv
 exact ⟨by rw [zbb]; exact (yad.1 hv).1, u, hu, hr.mono hH.ext_le.f _ _⟩
theorem zzif (need old : Nat) (elem : TypeId) (t : Nat) : need <= (Question.appendCap need old elem).cut t := by simp [Question.cut]
theorem zmf (need old : Nat) (elem : TypeId) : ∃ c, need <= c /\ (choose (.appendCap need old elem)).run P w = .ok c w.drew := by
 refine ⟨(Question.appendCap need old elem).cut (w.tape w.drawn (.appendCap need old elem)), zzif _ _ _ _, ?_⟩
 rw [run_choose]; simp [Question.forced]
theorem zi4 : Below N w w.drew := (Below.refl N w).drew
theorem zow (hH : zb0 B N μ H w) {el : Nat} (s : ByteArray) : ∃ w' cap, (Conv.stringToBytes el s).run P w = .ok (.slice (some ⟨w.heap.size, 0, none⟩) s.size cap) w' /\ s.size <= cap ∧
  zb0 B N (μ.ext H.next ⟨w.heap.size, false, 1, cap, false⟩) (za7 H (zfl (zbm s)) (some 1)) w' /\ Below N w w' := by
 obtain ⟨cap, hcap, hc⟩ := zmf (P := P) (w := w) s.size 0 el
 let cs : Array Value := (s.data.map fun b => Value.int .u8 b.toNat) ++ Array.replicate (cap - s.size) (.int .u8 0)
 have hsz : cs.size = cap := by simp [cs]; show s.data.size + (cap - s.size) = cap; have : s.data.size = s.size := rfl; omega
 have hdat : (s.data.map fun b => Value.int .u8 b.toNat).size = s.size := by simp
 have hpush : ∀ X : Obj, (w.drew.heap.push X)[w.heap.size]? = some X := fun X => by show (w.heap.push X)[w.heap.size]? = _; simp
 refine ⟨w.drew.alloc (.cells cs el (cap, cap + 1)), cap, ?_, hcap, ?_, (zi4).trans (zcc (by simpa using hH.size) _)⟩
 ·unfold Conv.stringToBytes
  have hfz : (w.drew.alloc (.cells cs el)).freeze ⟨w.heap.size, cap, none⟩ 1 = w.drew.alloc (.cells cs el (cap, cap + 1)) := by
   unfold World.freeze; rw [if_neg (by simp)]
   unfold World.alloc; congr 1
   apply Array.ext_getElem?
   intro k; rw [Array.getElem?_modify]; by_cases e : k = w.heap.size
   ·subst e; rw [if_pos rfl, hpush, hpush]; rfl
   ·rw [if_neg (fun h => e h.symm)]
    simp only [Array.getElem?_push]; rw [if_neg (by simpa using e), if_neg (by simpa using e)]
  have hshape : (w.drew.alloc (.cells cs el)).shape? w.heap.size = some (el, cs.size) := by
   unfold World.shape? World.alloc
   simp only [hpush]
  simp only [Sem.run_bind, hc, Result.andThen_ok, zei, markStringish, run_shape]; have h2 : (w.drew.alloc (.cells cs el)).shape? w.drew.heap.size = some (el, cap) := by rw [<- hsz]; exact hshape
  simp only [show ((s.data.map fun b => Value.int .u8 (b.toNat : Int)) ++ Array.replicate (cap - s.size) (Value.int .u8 0)) = cs from rfl, h2, run_freeze, Result.andThen_ok, Sem.run_pure]
  rw [show (⟨w.drew.heap.size, cap, none⟩ : Addr) = ⟨w.heap.size, cap, none⟩ from rfl, hfz]
  rfl
 ·have := (hH.drew).newLoose (l := zfl (zbm s)) (cs := cs) (es := 1) (by rw [zkj, zdv, hsz]; exact hcap) (fun j a ha => ?_) el (cap, cap + 1) (.inr (by rw [hsz]; exact yal _)) (Nat.mod_one _)
  ·rw [hsz] at this; exact this
  ·obtain ⟨u, hu, hr⟩ := (zom (μ := μ) s).get ha
   refine ⟨u, ?_, hr⟩
   have hj : j < s.size := by
    have := (yad.1 ha).1
    rw [zkj, zdv] at this; exact this
   show ((s.data.map fun b => Value.int .u8 (b.toNat : Int)) ++ _)[j]? = _
   rw [Array.getElem?_append_left (by rw [hdat]; exact hj)]
   simpa using hu
theorem zzc (hT : zdm P C) (hH : zb0 B N μ H w) (hE : zht μ e ρ) {s d : Nat} {x : Operand} (h : zfy s d x C e H = .val v H') : z2h P B N μ w ρ ⟨dst, .convert s d x, type, pos, after, guard⟩ v H' := by
 unfold zfy at h; split at h
 ·rename_i u hu
  injection h with h1 h2
  subst h1 h2
  exact (z1o hT hH hE hu).hv hH
 ·have h := zd7 h
  simp only [zad, zae, ze3, zcv, zbb] at h; obtain ⟨sy, hsy, ty, hty, el, hel, et, het, k, hk, rfl, a, ha, l, rfl, h⟩ := h
  cases h; have hv := hE _ _ ha
  rw [zaq] at hv; obtain ⟨str, hxv, rfl⟩ := hv
  obtain ⟨w', cap, h1, h2, h3, h4⟩ := zow (P := P) (el := el) hH str
  obtain ⟨su, hsu⟩ := (hT.facts hsy).und
  refine ⟨.slice (some ⟨w.heap.size, 0, none⟩) str.size cap, w', _, .inl ?_, hH.ext_le, h3, h4, ?_⟩
  ·have h5 : (convert s d (ρ x)).run P w = .ok (.slice (some ⟨w.heap.size, 0, none⟩) str.size cap) w' := by
    rw [hxv]; simp only [convert, Sem.run_bind, zbe hsu, zbe (zcu (hT.facts hty) hel), Result.andThen_ok]
    cases su <;> simp only [zbe (zuq (hT.facts het) hk), Result.andThen_ok, h1]
   simp only [execOp, Sem.run_bind, h5, Result.andThen_ok, Sem.run_pure]
  ·rw [zaq, zdv]
   exact .inl ⟨_, cap, Mu.ext_same, rfl, h2, (fun h => by cases h), (fun _ => by simp)⟩
end
end Go.Am
