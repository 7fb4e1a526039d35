/- Arithmetic, comparisons, conversions, slices. -/
import Derived.Below
import Derived.Laws.BytesString
import Derived.Lib.Strings
import Derived.Test.YtfmlbimokklmgaaGreatDoorA01
set_option linter.all false
noncomputable section
namespace Go.Am
open Go
section
variable {P : Program} {C : Ctx} {B N : Nat} {μ : Mu} {H : zaf} {w : World}
variable {e : Env} {ρ : Operand -> Value} {dst : Option Tmp} {type : TypeId} {pos : String} {after : Array Edge} {guard : Option (Nat × Bool)} {v : zab}
theorem zgc {k : IntKind} {n : Nat} (h : n < kHi k) : k.wrap (n : Int) = n := by
 rw [<- zdu]; show (bif Nat.blt n (kHi k) then Int.ofNat n else _) = _
 grind [zdk]
theorem z2r (k : IntKind) : ∃ m, kHi k = 2 ^ m /\ m <= k.bits := by
 cases k
 ·exact ⟨7, rfl, by decide⟩
 ·exact ⟨15, rfl, by decide⟩
 ·exact ⟨31, rfl, by decide⟩
 ·exact ⟨63, rfl, by decide⟩
 ·exact ⟨8, rfl, by decide⟩
 ·exact ⟨16, rfl, by decide⟩
 ·exact ⟨32, rfl, by decide⟩
 ·exact ⟨64, rfl, by decide⟩
theorem zhm {k : IntKind} {n : Nat} (h : n < kHi k) : (BitVec.ofInt k.bits (n : Int)).toNat = n := by
 obtain ⟨m, hm, hle⟩ := z2r k
 rw [BitVec.toNat_ofInt]; have : n < 2 ^ k.bits := Nat.lt_of_lt_of_le (hm ▸ h) (yao (by omega) hle)
 rw [<- Int.natCast_emod, Int.toNat_natCast, Nat.mod_eq_of_lt this]
theorem zl0 {f : Nat -> Nat -> Nat} {k : IntKind} {a b : Int} {v : zab} (h : zfr f k a b = some v) : ∃ x y : Nat, a = x /\ b = y /\ x < kHi k /\ y < kHi k /\ v = .int k (f x y : Nat) := by
 grind [zfr, zac, zjp, zae, zdk]
theorem zzer {op : BinOp} {k : IntKind} {a b : Int} (h : (zzes op).f k a b = some v) : op ≠ .shl /\ op ≠ .shr /\ ∀ t, ∃ v', (binOp op t (.int k a) (.int k b)).run P w = .ok v' w /\ zaq μ v v' := by
 cases op <;> simp only [zzes] at h
 case add => cases h; simp_all [binOp, Op.intArith, zaq, zdu]
 case sub => cases h; simp_all [binOp, Op.intArith, zaq, zdu]
 case mul => cases h; simp_all [binOp, Op.intArith, zaq, zdu]
 case quo =>
  unfold zzhq at h; simp only [zay, zke] at h; split at h
  ·cases h
  ·rename_i hb; cases h
   simp_all [zaq, zdu, binOp, Op.intDiv]
 case rem =>
  unfold zzff at h; simp only [zay, zke] at h; split at h
  ·cases h
  ·rename_i hb; cases h
   simp_all [zaq, binOp, Op.intDiv]
 case and =>
  unfold iAnd at h; split at h
  ·obtain ⟨x, y, rfl, rfl, hx, hy, rfl⟩ := zl0 h
   refine ⟨by simp, by simp, fun t => ⟨.int k ((x &&& y : Nat) : Int), ?_, by rw [zaq]; rfl⟩⟩
   have h1 : x &&& y < kHi k := yam Nat.and_le_left hx
   simp only [binOp, Op.intBits, BitVec.toNat_and, zhm hx, zhm hy, zgc h1]; simp
  ·simp only [zac, zjp, zae, zdk] at h
   obtain ⟨y, rfl, hy, h⟩ := h
   cases h; have e : (BitVec.ofInt k.bits a).toNat = Int.toNat (Int.emod a (.ofNat (kW k))) := by
    rw [BitVec.toNat_ofInt]
    cases k <;> rfl
   generalize Int.toNat (Int.emod a (.ofNat (kW k))) = x at e ⊢
   refine ⟨by simp, by simp, fun t => ⟨.int k ((x &&& y : Nat) : Int), ?_, by rw [zaq]; rfl⟩⟩
   have h1 : x &&& y < kHi k := yam Nat.and_le_right hy
   simp only [binOp, Op.intBits, BitVec.toNat_and, e, zhm hy, zgc h1]; simp
 case or =>
  obtain ⟨x, y, rfl, rfl, hx, hy, rfl⟩ := zl0 h
  obtain ⟨m, hm, _⟩ := z2r k
  refine ⟨by simp, by simp, fun t => ⟨.int k ((x ||| y : Nat) : Int), ?_, by rw [zaq]; rfl⟩⟩
  have h1 : x ||| y < kHi k := by simp_all [Nat.or_lt_two_pow]
  simp only [binOp, Op.intBits, BitVec.toNat_or, zhm hx, zhm hy, zgc h1]; simp
 case xor =>
  obtain ⟨x, y, rfl, rfl, hx, hy, rfl⟩ := zl0 h
  obtain ⟨m, hm, _⟩ := z2r k
  refine ⟨by simp, by simp, fun t => ⟨.int k ((x ^^^ y : Nat) : Int), ?_, by rw [zaq]; rfl⟩⟩
  have h1 : x ^^^ y < kHi k := by simp_all [Nat.xor_lt_two_pow]
  simp only [binOp, Op.intBits, BitVec.toNat_xor, zhm hx, zhm hy, zgc h1]; simp
 case eql => cases h; simp_all [binOp, Op.intCmp, zaq, zp4]
 case neq => cases h; exact ⟨by simp, by simp, fun t => ⟨.bool (a != b), by simp [binOp, Op.intCmp], by rw [zaq, zp4]; rfl⟩⟩
 case lss => cases h; simp_all [binOp, Op.intCmp, zaq, zzkq]
 case leq => cases h; simp_all [binOp, Op.intCmp, zaq, zzkr]
 case gtr => cases h; simp_all [binOp, Op.intCmp, zaq, zzkq]
 case geq => cases h; simp_all [binOp, Op.intCmp, zaq, zzkr]
 all_goals cases h
theorem ze4 (s : ByteArray) : (zb8 s).length = s.size := by simp [zb8]
theorem zxw (a b : ByteArray) : zb8 (a ++ b) = zb8 a ++ zb8 b := by simp [zb8]
theorem z7y (s : ByteArray) (i : Nat) : (zb8 s)[i]? = (s[i]?).map UInt8.toNat := by
 unfold zb8; rw [ybu]; congr 1
 by_cases h : i < s.size
 all_goals simp_all [ByteArray.getElem_eq_getElem_data]
theorem zmq (s : ByteArray) (l h : Nat) : zb8 (s.extract l h) = ((zb8 s).take h).drop l := by
 unfold zb8; rw [ByteArray.data_extract, Array.toList_extract, List.extract_eq_take_drop, <- List.map_take, <- List.map_drop, List.drop_take]
theorem z0u {a b : ByteArray} : (a.toList == b.toList) = (zem (zb8 a) (zb8 b)) := by
 grind [Lib.toList_data, zf3, zb8, zl5]
theorem z63 (a : List UInt8) : ∀ b : List UInt8, Op.bytesLess a b = z2o (a.map UInt8.toNat) (b.map UInt8.toNat) := by
 induction a with
 | nil => intro b; cases b <;> rfl
 | cons x a ih =>
  intro b
  cases b with
  | nil => rfl
  | cons y b =>
   show _ = (bif Nat.blt x.toNat y.toNat then true else bif Nat.beq x.toNat y.toNat then z2o (a.map UInt8.toNat) (b.map UInt8.toNat) else false)
   grind [Op.bytesLess, zdk, UInt8.lt_iff_toNat_lt, UInt8.toNat_inj, zds]
theorem zzeo {op : BinOp} {a b : ByteArray} (h : (zzep op).f (zb8 a) (zb8 b) = some v) : op ≠ .shl /\ op ≠ .shr /\ ∀ t, ∃ v', (binOp op t (.string a) (.string b)).run P w = .ok v' w /\ zaq μ v v' := by
 cases op <;> simp only [zzep] at h
 case add =>
  simp only [zi8, zae, zdk, za1, zca, ze4] at h; obtain ⟨h1, h⟩ := h
  cases h; refine ⟨by simp, by simp, fun t => ⟨.string (a ++ b), ?_, by grind [zaq, zxw]⟩⟩
  have h2 : ¬ (((a.size + b.size : Nat) : Int) > IntKind.i64.max) := by
   have : IntKind.i64.max = 9223372036854775807 := by decide
   omega
  simp_all [binOp, Op.stringOp]
 case eql => cases h; exact ⟨by simp, by simp, fun t => ⟨.bool (a.toList == b.toList), rfl, by rw [zaq, z0u]⟩⟩
 case neq => cases h; exact ⟨by simp, by simp, fun t => ⟨.bool !(a.toList == b.toList), rfl, by rw [zaq, z0u]⟩⟩
 case lss => cases h; exact ⟨by simp, by simp, fun t => ⟨.bool (Op.bytesLess a.toList b.toList), rfl, by rw [zaq, Lib.toList_data, Lib.toList_data, z63]; rfl⟩⟩
 all_goals cases h
theorem zjx {op : BinOp} {t : TypeId} {x y : Operand} {a b : Value} (h1 : ¬ (a = .nilIface /\ b = .nilIface) \/ (zn4 x || zn4 y) = true) (h2 : ∀ l m, ¬ (a = .agg l /\ b = .agg m)) : (eqGuard op t x y a b).run P w = .ok () w := by
 unfold eqGuard
 cases op
 case eql | neq =>
  rw [yaa (by simp)]
  split
  ·rcases h1 with h1 | h1
   ·simp_all
   ·cases x <;> cases y <;> simp [zn4] at h1 ⊢
  all_goals simp_all
 all_goals rfl
theorem z24 {op : BinOp} {t : TypeId} {x y : Operand} {l m : Array Value} (h : P.eqGuardType P.depth t = false) : (eqGuard op t x y (.agg l) (.agg m)).run P w = .ok () w := by
 simp_all [eqGuard]
theorem zjk {op : BinOp} {t yt : TypeId} {x y : Operand} {v' : Value} (h1 : (eqGuard op t x y (ρ x) (ρ y)).run P w = .ok () w) (h2 : (binOp op t (ρ x) (ρ y)).run P w = .ok v' w) :
  (execOp ρ ⟨dst, .binOp op t x y yt, type, pos, after, guard⟩).run P w = .ok (.value v') w := by
 simp_all [execOp]
theorem zro {k : IntKind} {b : Int} {n : Nat} (h : zrp k b = some n) : ¬ b < 0 /\ n = min b.toNat k.bits := by
 grind [zrp, zac, zjp]
theorem zs5 {op : BinOp} {t yt : TypeId} {x y : Operand} {a b : zab} (hx : zaq μ a (ρ x)) (hy : zaq μ b (ρ y))
  (h : (op = .shl /\ zoo zzcz a b = some v) \/ (op = .shr /\ zoo zzne a b = some v)) : LOk P μ w ρ ⟨dst, .binOp op t x y yt, type, pos, after, guard⟩ v := by
 rcases h with ⟨rfl, h⟩ | ⟨rfl, h⟩
 all_goals
  unfold zoo at h; simp only [zac, zdg, zpm] at h; obtain ⟨p, rfl, n, ⟨k', rfl⟩, h⟩ := h
  rw [zaq] at hx hy
 ·unfold zzcz at h
  rw [zac] at h; obtain ⟨m, hm, h⟩ := h
  cases h; obtain ⟨h1, rfl⟩ := zro hm
  refine ⟨.int p.1 (p.1.wrap (p.2 * 2 ^ (min n.toNat p.1.bits))), zjk (zjx (.inl (by grind)) (by grind)) ?_, by rw [zaq, zdu]; simp⟩
  rw [hx, hy]; simp [binOp, Op.shift, h1]
 ·unfold zzne at h
  rw [zac] at h; obtain ⟨m, hm, h⟩ := h
  cases h; obtain ⟨h1, rfl⟩ := zro hm
  refine ⟨.int p.1 (p.2.fdiv (2 ^ (min n.toNat p.1.bits))), zjk (zjx (.inl (by grind)) (by grind)) ?_, by rw [zaq]; simp⟩
  rw [hx, hy]; simp [binOp, Op.shift, h1]
theorem zjw {n m : Nat} {a b : zab} {r : Bool} (h : z0g n m a b = some r) : (a.tag = n /\ b.tag = n /\ r = true) \/ (a.tag = n /\ b.tag = m /\ r = false) \/ (a.tag = m /\ b.tag = n /\ r = false) := by
 grind [z0g, zds, zae]
theorem zzdo {t : Nat} {ty : ATy} (hF : zdq P t ty) {a b : zab} {va vb : Value} (ha : zaq μ a va) (hb : zaq μ b vb) {r : Bool} {d : Nat} (h : z0h ty.desc a b = some r) :
  (Op.equalIn (d + 1) t va vb).run P w = .ok r w := by
 obtain ⟨D, hD⟩ := hF.und
 have h0 := hF.desc
 unfold zha at h0; rw [hD] at h0; unfold Op.equalIn; rw [yad, zbd hD, yac]; rw [<- h0] at h
 cases D <;> simp only [z0h] at h <;> try (cases h; done)
 case bool =>
  simp only [zvb, zac, zez] at h; obtain ⟨x, rfl, y, rfl, h⟩ := h
  simp_all [zaq, zoq]
 case int k =>
  simp only [zzns, zac, zdg, zae, zf2] at h; obtain ⟨x, rfl, y, rfl, hk, h⟩ := h
  simp_all [zaq, zp4]
 case string =>
  simp only [zxl, zac, zd1] at h; obtain ⟨x, rfl, y, rfl, h⟩ := h
  cases h; rw [zaq] at ha hb; obtain ⟨s, rfl, rfl⟩ := ha
  obtain ⟨u, rfl, rfl⟩ := hb
  have : (s == u) = zem (zb8 s) (zb8 u) := by
   rw [Bool.eq_iff_iff, zf3]; have h1 : (s == u) = (s.data == u.data) := rfl
   grind [zb8, zl5]
  simp_all
 case pointer el =>
  rcases zjw h with ⟨h1, h2, rfl⟩ | ⟨h1, h2, rfl⟩ | ⟨h1, h2, rfl⟩ <;> cases a <;> simp [zab.tag] at h1 <;> cases b <;> simp [zab.tag] at h2 <;> rw [zaq] at ha <;> rw [zaq] at hb
  ·simp_all
  ·obtain ⟨i, _, hb⟩ := hb; simp_all
  ·obtain ⟨i, _, ha⟩ := ha; simp_all
 case slice el =>
  rcases zjw h with ⟨h1, h2, rfl⟩ | ⟨h1, h2, rfl⟩ | ⟨h1, h2, rfl⟩ <;> cases a <;> simp [zab.tag] at h1 <;> cases b <;> simp [zab.tag] at h2 <;> rw [zaq] at ha <;> rw [zaq] at hb
  ·simp_all
  ·rcases hb with ⟨i, _, _, hb, _⟩ | ⟨_, _, _, _, _, hb, _⟩ <;> (simp_all)
  ·rcases ha with ⟨i, _, _, ha, _⟩ | ⟨_, _, _, _, _, ha, _⟩ <;> (simp_all)
 case map k el =>
  rcases zjw h with ⟨h1, h2, rfl⟩ | ⟨h1, h2, rfl⟩ | ⟨h1, h2, rfl⟩ <;> cases a <;> simp [zab.tag] at h1 <;> cases b <;> simp [zab.tag] at h2 <;> rw [zaq] at ha <;> rw [zaq] at hb
  ·simp_all
  ·obtain ⟨i, _, hb⟩ := hb; simp_all
  ·obtain ⟨i, _, ha⟩ := ha; simp_all
 case func ps rs vd =>
  rcases zjw h with ⟨h1, h2, rfl⟩ | ⟨h1, h2, rfl⟩ | ⟨h1, h2, rfl⟩ <;> cases a <;> simp [zab.tag] at h1 <;> cases b <;> simp [zab.tag] at h2 <;> rw [zaq] at ha <;> rw [zaq] at hb
  ·simp_all
  ·obtain ⟨i, _, _, hb, _⟩ := hb; simp_all
  ·obtain ⟨i, _, _, ha, _⟩ := ha; simp_all
 case interface ms =>
  rcases zjw h with ⟨h1, h2, rfl⟩ | ⟨h1, h2, rfl⟩ | ⟨h1, h2, rfl⟩ <;> cases a <;> simp [zab.tag] at h1 <;> cases b <;> simp [zab.tag] at h2 <;> rw [zaq] at ha <;> rw [zaq] at hb
  ·simp_all
  ·obtain ⟨i, hb, _⟩ := hb; simp_all
  ·obtain ⟨i, ha, _⟩ := ha; simp_all
theorem zsn {t : Nat} {g : Array Field} (h : P.underlying t = some (.struct g)) : P.fieldsOf t = g := by unfold Program.fieldsOf; rw [h]
theorem zziw (hT : zdh P C) {D : Nat} {eq : Nat -> zab -> zab -> Option Bool} (heq : ∀ t a b va vb r, zaq μ a va -> zaq μ b vb -> eq t a b = some r -> (Op.equalIn D t va vb).run P w = .ok r w)
  {xs ys : List zab} {vx vy : Array Value} (hx : zbw μ xs vx.toList) (hy : zbw μ ys vy.toList) : ∀ (g : List Field) (r : Bool), (∀ f ∈ g, f.name ≠ "_") -> z78 C eq xs ys (g.map fun f => (f.offset, f.type, P.cellsOf f.type)) = some r →
   (Op.eqFields D vx vy g).run P w = .ok r w := by
 intro g; induction g with
 | nil => intro r _ h; cases h; rfl
 | cons f g ih =>
  intro r hn h; rw [ycm, z78] at h; simp only [zac] at h; obtain ⟨a, ha, b, hb, q, hq, h⟩ := h
  obtain ⟨va, h1, h2⟩ := znp (P := P) (w := w) hT hx ha
  obtain ⟨vb, h3, h4⟩ := znp (P := P) (w := w) hT hy hb
  have h5 := heq _ _ _ _ _ _ h2 h4 hq
  rw [Op.eqFields, yab (hn f (by simp))]
  simp only [yad, h1, yac, h3, h5]
  cases q with
  | true => grind
  | false => simp_all
theorem zzk3 (hT : zdh P C) : ∀ (d D t : Nat) (a b : zab) (va vb : Value) (r : Bool), d <= D -> zaq μ a va -> zaq μ b vb -> aeq C d t a b = some r -> (Op.equalIn D t va vb).run P w = .ok r w := by
 intro d; induction d with
 | zero => intro D t a b va vb r _ _ _ h; cases h
 | succ d ih =>
  intro D t a b va vb r hD ha hb h
  cases D with
  | zero => omega
  | succ D =>
   rw [aeq, zac] at h; obtain ⟨ty, hty, h⟩ := h
   have hF := hT.facts hty
   split at h
   ·rename_i fs hfs
    simp only [zae, zac, zhr] at h; obtain ⟨hok, xs, rfl, ys, rfl, h⟩ := h
    obtain ⟨g, hg, rfl⟩ := zfi hF hfs
    obtain ⟨h1, _, h3⟩ := hF.eqOk hok
    grind [zaq, zsn, run_equalIn_struct, zziw]
   grind [zzdo]
theorem zzoe (hT : zdh P C) {d t : Nat} {a b : zab} {l m : Array Value} {r : Bool} (ha : zaq μ a (.agg l)) (hb : zaq μ b (.agg m)) (h : aeq C d t a b = some r) : P.eqGuardType P.depth t = false := by
 cases d with
 | zero => cases h
 | succ d =>
  rw [aeq, zac] at h; obtain ⟨ty, hty, h⟩ := h
  split at h
  ·rw [zae] at h; exact ((hT.facts hty).eqOk h.1).2.1
  ·exfalso
   have hag : ∀ (a : zab) (l : Array Value), zaq μ a (.agg l) -> a.tag = 13 := by
    intro a l ha
    cases a <;> rw [zaq] at ha <;> first | rfl | (exfalso; revert ha; simp)
   have h1 := hag _ _ ha
   have h2 := hag _ _ hb
   cases a <;> simp [zab.tag] at h1
   cases b <;> simp [zab.tag] at h2
   revert h
   cases ty.desc <;> simp [z0h, zvb, zab.asBool, zzns, zab.asIntK, zxl, zab.asStr, z0g, z5n, zab.tag, zaj, Nat.beq]
theorem zpu {a : zab} {v : Value} (h : zaq μ a v) : v = .nilIface -> a.tag = 12 := by
 intro hv; subst hv
 cases a <;> rw [zaq] at h <;> first | rfl | (exfalso; revert h; simp)
theorem zs6 (hT : zdh P C) {op : BinOp} {t yt : TypeId} {x y : Operand} {a b : zab} {neg : Bool} (hx : zaq μ a (ρ x)) (hy : zaq μ b (ρ y)) (ha : a.asIntK = none) (hs : a.asStr = none)
  (hop : (neg = false /\ op = .eql) \/ (neg = true /\ op = .neq)) (h : zq5 neg C t x y a b = some v) : LOk P μ w ρ ⟨dst, .binOp op t x y yt, type, pos, after, guard⟩ v := by
 unfold zq5 at h; simp only [zae, zac] at h; obtain ⟨hg, r, hr, h⟩ := h
 cases h; have h1 : (Op.equal t (ρ x) (ρ y)).run P w = .ok r w := zzk3 hT 20 10000 t a b _ _ r (by decide) hx hy hr
 have hG : (eqGuard op t x y (ρ x) (ρ y)).run P w = .ok () w := by
  by_cases hag : ∃ l m, ρ x = .agg l /\ ρ y = .agg m
  ·grind [z24, zzoe]
  ·refine zjx ?_ fun l m hlm => hag ⟨l, m, hlm⟩
   by_cases hn : ρ x = .nilIface /\ ρ y = .nilIface
   ·right
    have h2 := zpu hx hn.1
    have h3 := zpu hy hn.2
    simp_all [z5m]
   simp_all
 have hnx : ∀ k n, ρ x ≠ .int k n := by
  intro k n hv; rw [hv] at hx
  cases a <;> rw [zaq] at hx <;> first | (simp [zab.asIntK] at ha; done) | (revert hx; simp)
 have hsx : ∀ s, ρ x ≠ .string s := by
  intro s hv; rw [hv] at hx
  cases a <;> rw [zaq] at hx <;> first | (simp [zab.asStr] at hs; done) | (revert hx; simp)
 have hfx : ∀ k n, ρ x ≠ .float k n := by
  intro k n hv; rw [hv] at hx
  cases a <;> rw [zaq] at hx <;> revert hx <;> simp
 have hcx : ∀ k n m, ρ x ≠ .complex k n m := by
  intro k n m hv; rw [hv] at hx
  cases a <;> rw [zaq] at hx <;> revert hx <;> simp
 rcases hop with ⟨rfl, rfl⟩ | ⟨rfl, rfl⟩
 ·refine ⟨.bool r, zjk hG ?_, by rw [zaq]; rfl⟩
  revert h1 hnx hsx hfx hcx
  generalize ρ x = vx
  generalize ρ y = vy
  intro h1 hnx hsx hfx hcx
  cases vx <;> first
   | exact absurd rfl (hnx _ _)
   | exact absurd rfl (hsx _)
   | exact absurd rfl (hfx _ _)
   | exact absurd rfl (hcx _ _ _)
   | simp [binOp, h1]
 ·refine ⟨.bool (!r), zjk hG ?_, by rw [zaq]; rfl⟩
  revert h1 hnx hsx hfx hcx
  generalize ρ x = vx
  generalize ρ y = vy
  intro h1 hnx hsx hfx hcx
  cases vx <;> first
   | exact absurd rfl (hnx _ _)
   | exact absurd rfl (hsx _)
   | exact absurd rfl (hfx _ _)
   | exact absurd rfl (hcx _ _ _)
   | simp [binOp, h1]
theorem zzck (hT : zdh P C) (hE : zil μ e ρ) {op : BinOp} {t yt : Nat} {x y : Operand} (h : zzcl op t x y C e H = some v) : LOk P μ w ρ ⟨dst, .binOp op t x y yt, type, pos, after, guard⟩ v := by
 unfold zzcl at h; simp only [zac] at h; obtain ⟨a, ha, b, hb, h⟩ := h
 have hx := hE _ _ ha
 have hy := hE _ _ hb
 clear ha hb
 revert h
 have plain : ∀ op, op ≠ .shl -> op ≠ .shr -> zxz op C t x y a b = some v -> LOk P μ w ρ ⟨dst, .binOp op t x y yt, type, pos, after, guard⟩ v := by
  intro op _ _ h; unfold zxz at h; split at h
  ·rename_i i hi
   simp only [zac, zdg, zae, zf2] at h; obtain ⟨j, rfl, hk, h⟩ := h
   rw [zdg] at hi; subst hi; rw [zaq] at hx; rw [zaq] at hy; obtain ⟨_, _, h2⟩ := zzer (P := P) (μ := μ) (w := w) h
   obtain ⟨v', h3, h4⟩ := h2 t
   refine ⟨v', zjk (zjx (.inl (by grind)) (by grind)) ?_, h4⟩
   simp_all
  ·rename_i hi
   split at h
   ·rename_i s hs
    simp only [zac, zd1] at h; obtain ⟨u, rfl, h⟩ := h
    rw [zd1] at hs; subst hs; rw [zaq] at hx; rw [zaq] at hy; obtain ⟨sx, hx, rfl⟩ := hx
    obtain ⟨sy, hy, rfl⟩ := hy
    obtain ⟨_, _, h2⟩ := zzeo (P := P) (μ := μ) (w := w) h
    obtain ⟨v', h3, h4⟩ := h2 t
    refine ⟨v', zjk (zjx (.inl (by grind)) (by grind)) ?_, h4⟩
    simp_all
   ·rename_i hs
    cases op <;> simp only [zzeq] at h <;> first
     | exact zs6 hT hx hy hi hs (.inl ⟨rfl, rfl⟩) h
     | exact zs6 hT hx hy hi hs (.inr ⟨rfl, rfl⟩) h
     | (cases h; done)
 intro h
 cases op <;> simp only [zzfi] at h <;> first
  | exact zs5 hx hy (.inl ⟨rfl, h⟩)
  | exact zs5 hx hy (.inr ⟨rfl, h⟩)
  | exact plain _ (by simp) (by simp) h
theorem zzcr {k : IntKind} (h : kLo k = 0) : kHi k = 2 ^ k.bits := by
 cases k <;> first
  | (cases h; done)
  | rfl
theorem zzj3 (hE : zil μ e ρ) {op : UnOp} {t : Nat} {x : Operand} (h : lUn op x C e H = some v) : LOk P μ w ρ ⟨dst, .unOp op t x, type, pos, after, guard⟩ v := by
 unfold lUn at h; simp only [zac] at h; obtain ⟨a, ha, h⟩ := h
 have hx := hE _ _ ha
 cases op <;> simp only [unA] at h <;> try (cases h; done)
 case neg =>
  simp only [unNeg, zac, zdg] at h; obtain ⟨p, rfl, h⟩ := h
  cases h; rw [zaq] at hx; refine ⟨.int p.1 (p.1.wrap (0 - p.2)), ?_, by rw [zaq, zdu]⟩
  simp [execOp, hx, Op.unary, Op.intArith]
 case xor =>
  simp only [z1j, zac, zdg, zae, zds] at h; obtain ⟨p, rfl, hk, h⟩ := h
  obtain ⟨a, b, ha1, hb, hx1, hy, rfl⟩ := zl0 h
  rw [zaq] at hx; have h1 : Nat.xor a b < kHi p.1 := by
   have : Nat.xor a b < 2 ^ p.1.bits := Nat.xor_lt_two_pow (by grind [zzcr]) (by grind [zzcr])
   grind [zzcr]
  refine ⟨.int p.1 (Nat.xor a b : Nat), ?_, by rw [zaq]⟩
  have hm : (if p.1.signed then (-1 : Int) else p.1.max) = (a : Int) := by
   rw [<- ha1]; revert hk
   cases p.1 <;> intro hk <;> first
    | (cases hk; done)
    | rfl
  have e2 : (Op.intBits .xor p.1 (if p.1.signed then -1 else p.1.max) p.2).run P w = .ok (.int p.1 (Nat.xor a b : Nat)) w := by
   rw [hm, hb]; simp only [Op.intBits, BitVec.toNat_xor, zhm hx1, zhm hy]; rw [show (a ^^^ b : Nat) = Nat.xor a b from rfl, zgc h1]
   rfl
  simp_all [execOp, Op.unary]
 case not =>
  simp only [unNot, zac, zez] at h; obtain ⟨b, rfl, h⟩ := h
  cases h; rw [zaq] at hx; refine ⟨.bool (!b), ?_, by rw [zaq]⟩
  simp [execOp, hx, Op.unary]
end
end Go.Am
namespace Go.Am
open Go
section
variable {P : Program} {C : Ctx} {B N : Nat} {μ : Mu} {H : zaf} {w : World}
variable {e : Env} {ρ : Operand -> Value} {dst : Option Tmp} {type : TypeId} {pos : String} {after : Array Edge} {guard : Option (Nat × Bool)} {v : zab}
theorem z0v {a : zab} {n : Nat} (h : zlo a = some n) : a = .int .u8 (n : Int) /\ n < 256 := by
 grind [zlo, zac, zdg, zae, zf2, zjp, zdk]
theorem z3h (l : List Nat) : ∀ s : ByteArray, (∀ n ∈ l, n < 256) -> zb8 ((l.map fun n : Nat => (n : Int)).foldl (fun r n => r.push (UInt8.ofNat n.toNat)) s) = zb8 s ++ l := by
 induction l with
 | nil => simp_all
 | cons n l ih =>
  intro s h; rw [ycm, List.foldl_cons, ih _ fun m hm => h m (by simp [hm])]
  have : zb8 (s.push (UInt8.ofNat (n : Int).toNat)) = zb8 s ++ [n] := by
   simp_all [zb8]
  simp_all
theorem z7x {μ : Mu} : ∀ {l : List zab} {r : List Nat} {vs : List Value}, zel zlo l = some r -> zbw μ l vs -> vs = r.map (fun n : Nat => Value.int .u8 (n : Int)) /\ ∀ n ∈ r, n < 256 := by
 intro l; induction l with
 | nil => grind [zh4, zbw]
 | cons a l ih =>
  grind [zcq, zac, zbw, z0v, zaq]
theorem z0l (hH : zbp B N μ H w) {a : zab} {x : Value} (hx : zaq μ a x) (h : zjz H a = some v) : ∃ v', (Conv.bytesToString x).run P w = .ok v' w /\ zaq μ v v' /\ ∃ A l c, x = .slice A l c := by
 unfold zjz at h; split at h
 ·rename_i s hs
  rw [zd4] at hs; subst hs; simp only [zac] at h; obtain ⟨c, hc, l, hl, r, hr, h⟩ := h
  cases h; rw [zaq] at hx; rcases hx with ⟨i, cap', hi, rfl, _⟩ | ⟨_, h0, _, A, _, rfl, _⟩
  rotate_left
  ·rw [h0] at hl
   cases hl
   cases hr; refine ⟨_, run_bytesToString w _ _ _ [] rfl, ?_, _, _, _, rfl⟩
   rw [zaq]; exact ⟨_, rfl, rfl⟩
  obtain ⟨vs, _, h2, h3, _⟩ := hH.manyAt (P := P) hc hi hl
  obtain ⟨h4, h5⟩ := z7x hr h2
  refine ⟨_, run_bytesToString w _ _ _ (r.map fun n : Nat => (n : Int)) (by simp_all), ?_, _, _, _, rfl⟩
  rw [zaq]; exact ⟨_, rfl, by rw [z3h _ _ h5]; simp [zb8]⟩
 ·simp only [zae, zds] at h
  obtain ⟨h1, h⟩ := h
  cases h; rw [zk3.2.1] at h1; subst h1; rw [zaq] at hx; subst hx; exact ⟨.string .empty, rfl, by rw [zaq]; exact ⟨_, rfl, rfl⟩, _, _, _, rfl⟩
theorem zzij (hT : zdh P C) (hH : zbp B N μ H w) {s d : Nat} {sty dty : ATy} (hs : C.tys.get s = some sty) (hd : C.tys.get d = some dty) {a : zab} {x : Value} (hx : zaq μ a x) (h : zpk C sty dty a H = some v) :
  ∃ v', (convert s d x).run P w = .ok v' w /\ zaq μ v v' := by
 have hS := hT.facts hs
 have hD := hT.facts hd
 obtain ⟨su, hsu⟩ := hS.und
 unfold zpk at h; split at h
 ·rename_i k hk
  simp only [zac, zpm] at h; obtain ⟨n, ⟨k', rfl⟩, h⟩ := h
  cases h; rw [zaq] at hx; subst hx; refine ⟨.int k (k.wrap n), ?_, by rw [zaq, zdu]⟩
  simp only [convert, yad, zbd hsu, zbd (zxr hD hk), yac]
  rfl
 ·simp only [zae] at h
  obtain ⟨hstr, h⟩ := h
  rw [zay] at h; split at h
  ·rename_i ht
   cases h
   cases v <;> simp [zab.tag, Nat.beq] at ht
   have hx' := hx
   rw [zaq] at hx; obtain ⟨str, rfl, _⟩ := hx
   refine ⟨.string str, ?_, hx'⟩
   simp only [convert, yad, zbd hsu, zbd (zkj hD hstr), yac]
   cases su <;> rfl
  ·simp only [zac, zae, zf2] at h
   obtain ⟨el, hel, et, het, k, hk, rfl, h⟩ := h
   obtain ⟨v', h1, h2, A, l, c, rfl⟩ := z0l (P := P) hH hx h
   exact ⟨v', by rw [run_convert_bytes_string w s d el A l c (zdb hS hel) (zxr (hT.facts het) hk) (zkj hD hstr)]; exact h1, h2⟩
theorem z45 (hT : zdh P C) (hH : zbp B N μ H w) (hE : zil μ e ρ) {s d : Nat} {x : Operand} (h : zma s d x C e H = some v) : LOk P μ w ρ ⟨dst, .convert s d x, type, pos, after, guard⟩ v := by
 unfold zma at h; simp only [zac] at h; obtain ⟨a, ha, sty, hs, dty, hd, h⟩ := h
 obtain ⟨v', h1, h2⟩ := zzij hT hH hs hd (hE _ _ ha) h
 exact ⟨v', by grind [execOp, Sem.run_bind, Result.andThen_ok, Sem.run_pure], h2⟩
theorem zkl {y : Nat} {a : zab} {n : Nat} (h : zlp y a = some n) : (∃ k, a = .int k (n : Int)) /\ n <= y := by
 grind [zlp, zac, zl6, zae, zg3]
theorem zhe {y y' : Nat} {a : zab} {x : Value} (hx : zaq μ a x) {n : Nat} (h : zlp y a = some n) (hy : y <= y') (code : BoundsCode) : (Instr.sliceBound x y' code).run P w = .ok n w := by
 obtain ⟨⟨k, rfl⟩, hle⟩ := zkl h
 grind [zaq, Instr.sliceBound, asIntOf, Sem.run_pure]
theorem zfa {isSlice : Bool} {len cap cap' : Nat} (hc : cap <= cap') {lo hi : Option zab} {lo' hi' : Option Value}
  (h1 : zze5 μ lo lo') (h2 : zze5 μ hi hi')
  {p : Nat × Nat} (h : zfj len cap lo hi = some p) : (Instr.sliceBounds isSlice len cap' lo' hi' none).run P w = .ok (p.1, p.2, cap') w /\ p.1 <= p.2 /\ (p.2 <= cap \/ p.2 = len) := by
 unfold zfj at h; simp only [zac] at h; obtain ⟨hb, hhi, l, hlo, h⟩ := h
 cases h; have hH : hb <= cap \/ hb = len := by
  cases hi with
  | none => right; cases hhi; rfl
  | some a => left; exact (zkl hhi).2
 have hL : l <= hb := by
  cases lo with
  | none => cases hlo; omega
  | some a => exact (zkl hlo).2
 refine ⟨?_, hL, hH⟩
 unfold Instr.sliceBounds
 cases hi with
 | none =>
  cases hi' with
  | some v => exact h2.elim
  | none =>
   cases hhi
   cases lo with
   | none =>
    cases lo' with
    | some v => exact h1.elim
    | none => cases hlo; simp
   | some a =>
    cases lo' with
    | none => exact h1.elim
    | some v => simp [zhe (P := P) (w := w) h1 hlo (ybk _)]
 | some b =>
  cases hi' with
  | none => exact h2.elim
  | some u =>
   cases lo with
   | none =>
    cases lo' with
    | some v => exact h1.elim
    | none => cases hlo; simp [zhe (P := P) (w := w) h2 hhi hc]
   | some a =>
    cases lo' with
    | none => exact h1.elim
    | some v => simp [zhe (P := P) (w := w) h2 hhi hc, zhe (P := P) (w := w) h1 hlo (ybk _)]
theorem zmi {b size cap l : Nat} {arr : Bool} (hH : zbp B N μ H w) {i : BI} (hi : μ b = some i) (h : zc2 H b size cap l arr = true) :
  i.tight = true \/ (i.tight = false /\ arr = false /\ i.es = size /\ (cap ≠ l \/ l = 0)) := by
 unfold zc2 at h; split at h
 ·rename_i c hc
  obtain ⟨o, h2, h3⟩ := hH.blk _ _ _ (zdo hc) hi
  obtain ⟨cs, elem, fr, _, _, _, _, h4⟩ := h3
  grind [beqf]
 ·cases h
theorem z7z {len cap : Nat} {lo hi : Option zab} {p : Nat × Nat} (h : zfj len cap lo hi = some p) : p.1 <= p.2 := by
 unfold zfj at h; simp only [zac] at h; obtain ⟨hb, hhi, l, hlo, h⟩ := h
 cases h
 cases lo with
 | none => cases hlo; omega
 | some a => exact (zkl hlo).2
theorem zrm (hT : zdh P C) (hH : zbp B N μ H w) {arr : Bool} {el b off len cap cap' : Nat} {lo hi : Option zab} {i : BI} (hi' : μ b = some i)
  (hcap : cap <= cap') (ht : i.tight = true -> cap' = cap) (hr : i.tight = false -> arr = false -> off + cap' * i.es <= i.room) (h : zd7 C H arr el b off len cap lo hi = some v) :
  ∃ p size, zfj len cap lo hi = some p /\ (sizeOf el).run P w = .ok size w ∧
   zaq μ v (.slice (some (if cap' = p.1 then ⟨i.b, off, none⟩ else Addr.add ⟨i.b, off, none⟩ (p.1 * size))) (p.2 - p.1) (cap' - p.1)) := by
 unfold zd7 at h; simp only [zac] at h; obtain ⟨et, het, p, hp, h⟩ := h
 rw [zay] at h; split at h
 ·rename_i hend
  cases h; simp only [ybb, zg3] at hend; obtain ⟨⟨hle, hle2⟩, hend⟩ := hend
  have hcp : cap = p.1 := by
   grind [zdj, zds]
  refine ⟨p, et.size, hp, (hT.facts het).size, ?_⟩
  simp_all [zaq]
 simp only [zae, ybb, zg3] at h; obtain ⟨⟨hle, hf⟩, h⟩ := h
 cases h; have hle' := z7z hp
 refine ⟨p, et.size, hp, (hT.facts het).size, ?_⟩
 rw [zaq]; have hoff : (if cap' = p.1 then (⟨i.b, off, none⟩ : Addr) else Addr.add ⟨i.b, off, none⟩ (p.1 * et.size)) = ⟨i.b, (bif Nat.beq cap p.1 then off else off + p.1 * et.size), none⟩ := by
  grind [zms, zds, zmi]
 refine .inl ⟨i, cap' - p.1, hi', by rw [hoff], by omega, fun h1 => by rw [ht h1], fun h1 => ?_⟩
 rcases zmi hH hi' hf with h2 | ⟨_, h3, h4, h5⟩
 ·simp_all
 ·have h6 := hr h1 h3
  rw [zay]; simp only [zds]; rw [h4] at h6 ⊢
  have h8 : p.1 * et.size + (cap' - p.1) * et.size = cap' * et.size := by rw [<- ybo]; grind
  grind
theorem zz2 (hT : zdh P C) (hH : zbp B N μ H w) (hE : zil μ e ρ) {t : Nat} {x : Operand} {lo hi mx : Option Operand} (h : (znz t x lo hi mx).f C e H = some v) :
  LOk P μ w ρ ⟨dst, .slice t x lo hi mx, type, pos, after, guard⟩ v := by
 unfold znz at h; split at h
 ·simp only [zn0, zac] at h
  obtain ⟨a, ha, l, hl, u, hu, ty, hty, h⟩ := h
  have hx := hE _ _ ha
  have h1 := hE.opt hl
  have h2 := hE.opt hu
  have hF := hT.facts hty
  have run : ∀ {v'}, (Instr.sliceAt t (ρ x) (lo.map ρ) (hi.map ρ) none).run P w = .ok v' w -> (execOp ρ ⟨dst, .slice t x lo hi none, type, pos, after, guard⟩).run P w = .ok (.value v') w := by
   grind [execOp, Sem.run_bind, Result.andThen_ok, Sem.run_pure]
  unfold zga at h; split at h
  ·rename_i s hs
   rw [zd1] at hs; subst hs; rw [zae] at h; obtain ⟨hstr, h⟩ := h
   unfold zni at h; simp only [zac, za1, ze3, zfz] at h; obtain ⟨p, hp, h⟩ := h
   cases h; rw [zaq] at hx; obtain ⟨str, hxv, rfl⟩ := hx
   rw [ze4] at hp; obtain ⟨h3, _⟩ := zfa (P := P) (w := w) (isSlice := false) (ybk _) h1 h2 hp
   refine ⟨.string (str.extract p.1 p.2), run ?_, by grind [zaq, zmq]⟩
   have hu' := zkj hF hstr
   simp_all [Instr.sliceAt, zbd, Instr.slice]
  ·split at h
   ·rename_i r hr
    rw [zd4] at hr; subst hr; simp only [zac] at h; obtain ⟨el, hel, h⟩ := h
    rw [zaq] at hx; rcases hx with ⟨i, cap', hi', hxv, hc, ht, hrm⟩ | ⟨k1, k3, k4, A, c, hxv, k2⟩
    rotate_left
    ·unfold zd7 at h
     simp only [zac] at h; obtain ⟨et, het, p, hp, h⟩ := h
     rw [zay] at h; obtain ⟨h3, h6, h7⟩ := zfa (P := P) (w := w) (isSlice := true) (cap' := c) (by omega) h1 h2 hp
     have hp2 : p.2 = 0 := by rcases h7 with h7 | h7 <;> omega
     have hp1 : p.1 = 0 := by omega
     have hend : ¬ (Nat.ble p.2 r.2.2.2 && Nat.ble p.1 p.2 && zdj H r.1 et.size r.2.2.2 p.1 false) = true := by
      grind [zdj]
     rw [yaa hend] at h; simp only [zae, ybb, zg3] at h; obtain ⟨_, h⟩ := h
     cases h; rw [k3] at h3; refine ⟨.slice (some A) 0 c, run ?_, ?_⟩
     ·have hu' := zdb hF hel
      simp only [Instr.sliceAt, yad, zbd hu', yac, Instr.slice, hxv, h3, yae, (hT.facts het).size, hp1, hp2]
      simp [Addr.add]
     grind [zaq]
    obtain ⟨p, size, hp, h4, h5⟩ := zrm (P := P) (w := w) hT hH hi' hc ht (fun a _ => hrm a) h
    obtain ⟨h3, _⟩ := zfa (P := P) (w := w) (isSlice := true) hc h1 h2 hp
    refine ⟨_, run ?_, h5⟩
    have hu' := zdb hF hel
    simp only [Instr.sliceAt, yad, zbd hu', yac, Instr.slice, hxv, h3, yae, h4]; congr 2
    split <;> rfl
   ·split at h
    ·rename_i q hq
     rw [zgo] at hq; subst hq; simp only [zac] at h; obtain ⟨ar, har, h⟩ := h
     rw [zaq] at hx; obtain ⟨i, hi', hxv⟩ := hx
     obtain ⟨p, size, hp, h4, h5⟩ := zrm (P := P) (w := w) hT hH hi' (ybk _) (fun _ => rfl) (fun _ h => by cases h) h
     obtain ⟨h3, _⟩ := zfa (P := P) (w := w) (isSlice := false) (ybk _) h1 h2 hp
     refine ⟨_, run ?_, h5⟩
     have hu' := zq3 hF har
     simp_all [Instr.sliceAt, zbd, Instr.sureAddr]
    ·simp only [zae, zds, zac] at h
     obtain ⟨htag, el, hel, ety, hety, p, hp, h⟩ := h
     cases h; rw [zk3.2.1] at htag; subst htag; rw [zaq] at hx; obtain ⟨h3, h6, h7⟩ := zfa (P := P) (w := w) (isSlice := true) (ybk 0) h1 h2 hp
     have hp2 : p.2 = 0 := by omega
     have hp1 : p.1 = 0 := by omega
     rw [hp1, hp2] at h3; refine ⟨.slice none 0 0, run ?_, by rw [zaq]⟩
     have hu' := zdb hF hel
     simp only [Instr.sliceAt, yad, zbd hu', yac, Instr.slice, hx, h3, yae, (hT.facts hety).size]
     simp
 ·cases h
end
end Go.Am
namespace Go.Am
open Go
section
variable {P : Program} {C : Ctx} {B N : Nat} {μ : Mu} {H : zaf} {w : World}
variable {e : Env} {ρ : Operand -> Value} {dst : Option Tmp} {type : TypeId} {pos : String} {after : Array Edge} {guard : Option (Nat × Bool)} {v : zab}
theorem zn1 (hT : zdh P C) (hE : zil μ e ρ) {t : Nat} {x i : Operand} (h : zdz t x i C e H = some v) : LOk P μ w ρ ⟨dst, .indexAddr t x i, type, pos, after, guard⟩ v := by
 unfold zdz at h; simp only [zac, zl6] at h; obtain ⟨ty, hty, a, ha, iv, hi, n, ⟨k, rfl⟩, h⟩ := h
 have hF := hT.facts hty
 have hx := hE _ _ ha
 have hiv := hE _ _ hi
 rw [zaq] at hiv; split at h
 ·rename_i s hs
  rw [zd4] at hs; subst hs; simp only [zac, zae, zdk] at h; obtain ⟨el, hel, et, het, hlt, h⟩ := h
  cases h; rw [zaq] at hx; rcases hx with ⟨j, cap', hj, hxv, _⟩ | ⟨_, k, _⟩
  rotate_left
  ·omega
  refine ⟨.pointer (some ⟨j.b, s.2.1 + n * et.size, none⟩), ?_, by grind [zaq]⟩
  have h1 : (0 : Int) <= (n : Int) /\ (n : Int) < (s.2.2.1 : Int) := ⟨by omega, by omega⟩
  simp only [execOp, Instr.indexAt, hiv, hxv, asIntOf, yad, yae, yac, zbd (zdb hF hel), (hT.facts het).size, Sem.run_ite, yab h1, Int.toNat_natCast, zms]
 ·simp only [zac, zgo, zae, zdk] at h
  obtain ⟨p, rfl, ar, har, et, het, hlt, h⟩ := h
  cases h; rw [zaq] at hx; obtain ⟨j, hj, hxv⟩ := hx
  refine ⟨.pointer (some ⟨j.b, p.2 + n * et.size, none⟩), ?_, by grind [zaq]⟩
  have h1 : (0 : Int) <= (n : Int) /\ (n : Int) < (ar.1 : Int) := ⟨by omega, by omega⟩
  simp only [execOp, Instr.indexAt, hiv, hxv, asIntOf, yad, yae, yac, zbd (zq3 hF har), Instr.sureAddr, (hT.facts het).size, Sem.run_ite, yab h1, Int.toNat_natCast, zms]
theorem zz3 (hT : zdh P C) (hE : zil μ e ρ) {t : Nat} {x i : Operand} (h : zlg t x i C e H = some v) : LOk P μ w ρ ⟨dst, .index t x i, type, pos, after, guard⟩ v := by
 unfold zlg at h; simp only [zac, zl6] at h; obtain ⟨ty, hty, a, ha, iv, hi, n, ⟨k, rfl⟩, h⟩ := h
 have hF := hT.facts hty
 have hx := hE _ _ ha
 have hiv := hE _ _ hi
 rw [zaq] at hiv; split at h
 ·rename_i s hs
  rw [zd1] at hs; subst hs; simp only [zae, zac, zbs] at h; obtain ⟨hstr, b, hb, h⟩ := h
  cases h; rw [zaq] at hx; obtain ⟨str, hxv, rfl⟩ := hx
  rw [z7y, yar] at hb; obtain ⟨u, hu, rfl⟩ := hb
  refine ⟨.int .u8 u.toNat, ?_, by rw [zaq]; rfl⟩
  simp only [execOp, Instr.index, hiv, hxv, asIntOf, yad, yae, yac, zbd (zkj hF hstr), Int.natCast_nonneg, if_true, Int.toNat_natCast, hu]
 ·simp only [zac, zhr, zae, zdk] at h
  obtain ⟨l, rfl, ar, har, et, het, hlt, h⟩ := h
  rw [zaq] at hx; obtain ⟨cs, hxv, hl⟩ := hx
  obtain ⟨v', h2, h3⟩ := znp (P := P) (w := w) hT hl h
  refine ⟨v', ?_, h3⟩
  have h1 : (0 : Int) <= (n : Int) /\ (n : Int) < (ar.1 : Int) := ⟨by omega, by omega⟩
  simp only [execOp, Instr.index, hiv, hxv, asIntOf, yad, yae, yac, zbd (zq3 hF har), (hT.facts het).size, Sem.run_ite, yab h1, Int.toNat_natCast, h2]
theorem ztw (l : List Value) : ∀ (off k : Nat) (cs : Array Value), off + k + l.length <= cs.size →
  ((l.zipIdx k).foldl (fun cs (c, j) => cs.setIfInBounds (off + j) c) cs).toList = cs.toList.take (off + k) ++ l ++ cs.toList.drop (off + k + l.length) := by
 induction l with
 | nil => simp_all
 | cons a l ih =>
  intro off k cs h; rw [List.zipIdx_cons, List.foldl_cons, ih off (k + 1) _ (by grind)]
  have hk : off + k < cs.toList.length := by grind
  simp only [Array.toList_setIfInBounds]; rw [List.take_set, List.drop_set_of_lt (by omega)]
  rw [show off + (k + 1) = off + k + 1 by omega, List.take_succ_eq_append_getElem hk, List.set_append_right _ _ (by grind)]
  simp only [ybz, yda, ycz, ybn]; rw [Nat.min_eq_left (by omega), Nat.sub_self]
  grind
theorem zq2 {place : Nat -> Option (Nat × Nat)} {ps : List (Nat × zab)} {qs : List (Nat × Value)} (hp : zfd (fun p q => p.1 = q.1 /\ zaq μ p.2 q.2) ps qs) :
  ∀ {cells r : List zab} {cs : Array Value}, zbw μ cells cs.toList -> zlm place ps cells = some r -> ∃ out, Instr.fill place cs qs = some out /\ zbw μ r out.toList := by
 induction hp with
 | nil => intro cells r cs hc h; rw [zlm] at h; cases h; exact ⟨cs, rfl, hc⟩
 | @cons p q ps qs hpq _ ih =>
  intro cells r cs hc h; rw [zlm] at h; simp only [zac] at h; obtain ⟨pl, hpl, mid, hmid, h⟩ := h
  unfold zll at hmid; simp only [zae, ybb, zds, zg3, za1, zca, zfz, ze3] at hmid; obtain ⟨⟨h1, h2⟩, hmid⟩ := hmid
  cases hmid; obtain ⟨i, vq⟩ := q
  obtain ⟨rfl, hv⟩ := hpq
  have hvc := zol hv
  have hlen := hvc.length
  have hcl := hc.length
  simp only [ycz] at hlen hcl; rw [Instr.fill, hpl]; simp only []; have h3 : ¬ (vq.cells.size ≠ pl.2 || decide (pl.1 + vq.cells.size > cs.size)) = true := by
   simp_all
  have h4 : ¬ ((decide (vq.cells.size ≠ pl.2) || decide (pl.1 + vq.cells.size > cs.size)) = true) := by omega
  obtain ⟨off, sz⟩ := pl
  rw [yaa h4]; refine ih ?_ h
  have h5 := ztw vq.cells.toList off 0 cs (by grind)
  rw [<- Array.foldl_toList, Array.toList_zipIdx, h5]; simp only [yct, ycz]; have := ((hc.take off).append hvc).append (hc.drop (off + p.2.cells.length))
  simp_all
theorem z6l {g : Array Field} (h : ∀ f ∈ g.toList, ∃ i, P.info? f.type = some i) : (g.mapM fun f => (do pure (f.offset, <- sizeOf f.type) : Sem (Nat × Nat))).run P w = .ok (g.map fun f => (f.offset, P.cellsOf f.type)) w := by
 obtain ⟨l⟩ := g
 rw [List.mapM_toArray]; simp only [Sem.run_map, List.map_toArray]; have key : ∀ l : List Field, (∀ f ∈ l, ∃ i, P.info? f.type = some i) -> (l.mapM fun f => (do pure (f.offset, <- sizeOf f.type) : Sem (Nat × Nat))).run P w = .ok (l.map fun f => (f.offset, P.cellsOf f.type)) w := by
  intro l; induction l with
  | nil => intro _; rfl
  | cons f l ih =>
   simp_all [sizeOf, zj7, Program.cellsOf]
 simp_all
theorem zz6 (hT : zdh P C) (hE : zil μ e ρ) {t : Nat} {parts : Array (Nat × Operand)} (h : zml t parts C e H = some v) : LOk P μ w ρ ⟨dst, .build t parts, type, pos, after, guard⟩ v := by
 unfold zml at h; simp only [zac] at h; obtain ⟨ty, hty, ps, hps, h⟩ := h
 have hF := hT.facts hty
 have hq := hE.parts hps
 obtain ⟨z, hz, _, hzl⟩ := hF.zero (μ := μ)
 split at h
 ·rename_i fs hfs
  simp only [zac, zbs] at h; obtain ⟨l, hl, h⟩ := h
  cases h; obtain ⟨g, hg, rfl⟩ := zfi hF hfs
  have hpl : (fun i : Nat => ob ((g.toList.map fun f => (f.offset, f.type, P.cellsOf f.type))[i]?) fun (x : Nat × Nat × Nat) => some (x.1, x.2.2)) = fun i => (g.map fun f => (f.offset, P.cellsOf f.type))[i]? := by
   funext i
   rw [ybu]; simp only [Array.getElem?_map]; have : g.toList[i]? = g[i]? := by simp
   rw [this]
   cases g[i]? <;> rfl
  rw [hpl] at hl; obtain ⟨out, ho, hr⟩ := zq2 hq hzl hl
  refine ⟨.agg out, ?_, by grind [zaq]⟩
  have hpr := z6l (P := P) (w := w) (g := g) (by have := hF.fields; rwa [zsn hg] at this)
  simp_all [execOp, Instr.build, zbd]
 ·simp only [zac] at h
  obtain ⟨ar, har, et, het, l, hl, h⟩ := h
  cases h; obtain ⟨out, ho, hr⟩ := zq2 hq hzl hl
  refine ⟨.agg out, ?_, by grind [zaq]⟩
  simp only [execOp, Instr.build, yad, hz, yac, zbd (zq3 hF har), (hT.facts het).size, Array.toList_map, ho, yae]
theorem zu6 (hT : zdh P C) (hE : zil μ e ρ) {x : Operand} {xt asserted : Nat} {ok : Bool} (h : zh7 x asserted ok C e H = some v) : LOk P μ w ρ ⟨dst, .typeAssert x xt asserted ok, type, pos, after, guard⟩ v := by
 unfold zh7 at h; simp only [zac, zae] at h; obtain ⟨ty, hty, hb, a, ha, h⟩ := h
 have hF := hT.facts hty
 have hx := hE _ _ ha
 obtain ⟨d, hd, hn⟩ := zog hF hb
 obtain ⟨z, hz, hzr, _⟩ := hF.zero (μ := μ)
 split at h
 ·rename_i p hp
  rw [zp8] at hp; subst hp; rw [zaq] at hx; obtain ⟨x', hxv, hr⟩ := hx
  rw [zay] at h; split at h
  ·rename_i heq
   rw [zds] at heq
   cases h; refine ⟨if ok then .tuple #[x', .bool true] else x', ?_, ?_⟩
   ·simp only [execOp, Instr.typeAssert, hxv, yad, zbd hd, yac]
    cases d <;> first | exact absurd rfl (hn _) | simp [heq]
   ·cases ok
    ·exact hr
    ·rw [cond_true, yab rfl, zaq]; exact ⟨_, rfl, .cons hr (.single (by rw [zaq]))⟩
  ·rename_i hne
   rw [zds] at hne; rw [zae] at h; obtain ⟨rfl, h⟩ := h
   cases h; refine ⟨.tuple #[z, .bool false], ?_, by rw [zaq]; exact ⟨_, rfl, .cons hzr (.single (by rw [zaq]))⟩⟩
   simp only [execOp, Instr.typeAssert, hxv, yad, zbd hd, yac]
   cases d <;> first | exact absurd rfl (hn _) | simp [hne, hz]
 ·simp only [zae, ybb, zds] at h
  obtain ⟨⟨htag, rfl⟩, h⟩ := h
  cases h; rw [zk3.2.2.2.2] at htag; subst htag; rw [zaq] at hx; refine ⟨.tuple #[z, .bool false], ?_, by rw [zaq]; exact ⟨_, rfl, .cons hzr (.single (by rw [zaq]))⟩⟩
  simp only [execOp, Instr.typeAssert, hx, yad, zbd hd, yac]
  cases d <;> first | exact absurd rfl (hn _) | simp [hz]
theorem zp3 {t : Nat} {ty : ATy} (hF : zdq P t ty) (h : zee ty.desc = true) : P.underlying t = some .bool \/ P.underlying t = some .string \/ ∃ k, P.underlying t = some (.int k) := by
 obtain ⟨D, hD⟩ := hF.und
 have h0 := hF.desc
 unfold zha at h0; rw [hD] at h0; rw [<- h0] at h; have h1 := zg3.1 h
 cases D <;> simp [zcy.tag] at h1
 all_goals simp_all
def ztl (D : TypeDesc) (a : zab) : Prop := (∃ k, D = .int k /\ a.tag = 1) \/ (D = .string /\ a.tag = 2) \/ (D = .bool /\ a.tag = 0)
theorem ztl.eq1 {D : TypeDesc} {a b : zab} {r : Bool} (h : ztl D a) (e : zfq a b = some r) : zh9 a b = some r := by
 rcases zh8 e with ⟨x, y, rfl, rfl, _⟩ | ⟨_, e⟩
 ·rcases h with ⟨_, _, ht⟩ | ⟨_, ht⟩ | ⟨_, ht⟩ <;> simp [zab.tag] at ht
 ·exact e
theorem zun {D : TypeDesc} {a b : zab} {va vb : Value} (hD : ztl D a) (ha : zaq μ a va) (hb : zaq μ b vb) {r : Bool} (h : zh9 a b = some r) : Instr.sameNow D va vb = some r := by
 rcases zgk h with ⟨k, x, y, rfl, rfl, rfl⟩ | ⟨x, y, rfl, rfl, rfl⟩ | ⟨x, y, rfl, rfl, rfl⟩ <;> rw [zaq] at ha <;> rw [zaq] at hb <;>
  rcases hD with ⟨k', rfl, ht⟩ | ⟨rfl, ht⟩ | ⟨rfl, ht⟩ <;> simp [zab.tag] at ht
 ·grind [Instr.sameNow]
 ·obtain ⟨s, rfl, rfl⟩ := ha
  obtain ⟨u, rfl, rfl⟩ := hb
  have : (s == u) = zem (zb8 s) (zb8 u) := by
   rw [Bool.eq_iff_iff, zf3]; have h1 : (s == u) = (s.data == u.data) := rfl
   grind [zb8, zl5]
  grind [Instr.sameNow]
 ·rw [ha, hb]; rfl
theorem z7g {D : TypeDesc} {k : zab} {kv : Value} (hD : ztl D k) (hk : zaq μ k kv) {l : List (zab × zab)} {es : List MapEntry} (hl : zfd (fun p e => zaq μ p.1 e.key /\ zaq μ p.2 e.val) l es) :
  ∀ {i : Nat} {r : Option zab}, zjd k l = some r -> match r with
   | none => Instr.findNow D kv es i = some none
   | some v => ∃ j v', Instr.findNow D kv es i = some (some (j, v')) /\ zaq μ v v' := by
 induction hl with
 | nil => intro i r h; rw [zjd] at h; cases h; rfl
 | @cons p e l es hpe _ ih =>
  intro i r h; rw [zjd, zac] at h; obtain ⟨q, hq, h⟩ := h
  have h1 := zun hD hk hpe.1 (hD.eq1 hq)
  cases q with
  | true =>
   rw [cond_true] at h
   cases h; exact ⟨i, e.val, by rw [Instr.findNow, h1], hpe.2⟩
  | false =>
   simp_all [Instr.findNow]
theorem zsz {D : TypeDesc} {t : Nat} {empty : Bool} {d : Nat} {kv : Value} (hu : P.underlying t = some D) (hD : (∃ k, D = .int k) \/ D = .string \/ D = .bool) : (Instr.checkKey empty (d + 1) t kv).run P w = .ok () w := by
 rw [Instr.checkKey, yad, zbd hu, yac]; rcases hD with ⟨k, rfl⟩ | rfl | rfl <;> rfl
theorem zkm {b : Nat} {l : List (zab × zab)} (h : zf6 H b = some l) : H.t.get b = some (.map l) := by
 unfold zf6 at h; rw [zac] at h; obtain ⟨x, hx, h⟩ := h
 cases x <;> simp [zav.asMap] at h
 simp_all
theorem zbp.mapAt (hH : zbp B N μ H w) {b : Nat} {l : List (zab × zab)} (h : zf6 H b = some l) {i : BI} (hi : μ b = some i) :
  ∃ es clock l', w.heap[i.b]? = some (.map es clock) /\ zpq l l' /\ zfd (fun p e => zaq μ p.1 e.key /\ zaq μ p.2 e.val) l' es.toList := by
 obtain ⟨o, h2, h3⟩ := hH.blk _ _ _ (zkm h) hi
 obtain ⟨es, clock, l', rfl, h4, h5⟩ := h3
 grind
theorem zjj {r : Nat} {o : Obj} (h : w.heap[r]? = some o) (hc : ∀ a b c, o ≠ .cells a b c) : (getObj r).run P w = .ok o w := by
 grind [getObj, Sem.run]
theorem zpb {t : Nat} {ty : ATy} {D : TypeDesc} (hF : zdq P t ty) (hu : P.underlying t = some D) (hk : zee ty.desc = true) {k : zab} (h : zsa ty.desc k = true) : ztl D k := by
 have h0 := hF.desc
 unfold zha at h0; rw [hu] at h0; rw [<- h0] at h; unfold zsa at h; rw [zds] at h; rcases zp3 hF hk with h1 | h1 | ⟨kk, h1⟩
 ·rw [hu] at h1; cases h1; exact .inr (.inr ⟨rfl, h.symm⟩)
 ·rw [hu] at h1; cases h1; exact .inr (.inl ⟨rfl, h.symm⟩)
 ·rw [hu] at h1; cases h1; exact .inl ⟨kk, rfl, h.symm⟩
theorem znj {α : Type} {g : α -> PUnit -> Sem (ForInStep PUnit)} : ∀ (l : List α), (∀ a ∈ l, (g a ⟨⟩).run P w = .ok (.yield ⟨⟩) w) -> (forIn l PUnit.unit g).run P w = .ok ⟨⟩ w
 | [], _ => rfl
 | a :: l, h => by
  rw [List.forIn_cons, yad, h a (.head _), yac]
  exact znj l fun x hx => h x (.tail _ hx)
theorem zznu {α : Type} {l r : List α} {a : α} {i : Nat} (h : a :: r = l.drop i) : l[i]? = some a /\ r = l.drop (i + 1) := by
 have h1 : (l.drop i)[0]? = some a := by grind
 rw [yde] at h1; refine ⟨by omega, ?_⟩
 have : r = (l.drop i).drop 1 := by grind
 rw [this, List.drop_drop]
theorem zsk {f : Nat × Nat × Nat} {fs : List (Nat × Nat × Nat)} {i : Nat} (h : zoa C (f :: fs) i = true) : f.1 = i /\ (∃ ty, C.tys.get f.2.1 = some ty /\ zee ty.desc = true) /\ zoa C fs (i + 1) = true := by
 grind [zoa, zds]
theorem zu9 {f : Nat × Nat × Nat} {fs : List (Nat × Nat × Nat)} {l : List zab} (h : zxg C (f :: fs) l = true) : ∃ v r ty, l = v :: r /\ C.tys.get f.2.1 = some ty /\ zsa ty.desc v = true /\ zxg C fs r = true := by
 cases l with
 | nil => cases h
 | cons v r =>
  grind [zxg]
theorem zzdp {d : zcy} {a b : zab} {r : Bool} (hd : zee d = true) (hf : zsa d a = true) (h : zh9 a b = some r) : z0h d a b = some r := by
 have h1 := zg3.1 hd
 have h2 : d.tag = a.tag := zds.1 hf
 rcases zgk h with ⟨k, x, y, rfl, rfl, hr⟩ | ⟨x, y, rfl, rfl, hr⟩ | ⟨x, y, rfl, rfl, hr⟩ <;> cases d <;> simp [zcy.tag, zab.tag] at h1 h2 <;> exact h
theorem zlj {d : zcy} (h : zee d = true) : d.isAgg = false /\ d.asStruct = none := by
 have h1 := zg3.1 h
 cases d <;> simp [zcy.tag] at h1 <;> exact ⟨rfl, rfl⟩
theorem z47 {xs ys : List zab} : ∀ (fs : List (Nat × Nat × Nat)) (i : Nat) (r : Bool), zoa C fs i = true -> zxg C fs (xs.drop i) = true -> zkt (xs.drop i) (ys.drop i) = some r -> z78 C (aeq C 1) xs ys fs = some r
 | [], i, r, _, hf, h => by
  generalize xs.drop i = l at hf h
  generalize ys.drop i = m at h
  cases l with
  | cons v l => cases hf
  | nil => cases m with
   | cons v m => cases h
   | nil => cases h; rfl
 | f :: fs, i, r, hfl, hf, h => by
  obtain ⟨e1, ⟨ty, hty, hkd⟩, hfl⟩ := zsk hfl
  obtain ⟨v, l, ty', e2, hty', hfit, hf⟩ := zu9 hf
  rw [hty] at hty'; cases hty'
  obtain ⟨gx, lx⟩ := zznu e2.symm
  rw [e2] at h
  cases e3 : ys.drop i with
  | nil => rw [e3] at h; cases h
  | cons b m =>
   obtain ⟨gy, ly⟩ := zznu e3.symm
   rw [e3] at h; simp only [zkt, zac] at h; obtain ⟨q, hq, s, hs, h⟩ := h
   cases h; obtain ⟨p1, p2⟩ := zlj hkd
   have px : ∀ {l : List zab} {a : zab}, l[i]? = some a -> zm1 C f.2.1 l f.1 = some a := by
    grind [zm1, zad, zbs]
   have hq' : aeq C 1 f.2.1 v b = some q := by
    grind [aeq, zad, zzdp]
   rw [z78, px gx, zad, px gy, zad, hq', zad]; rw [lx] at hf hs; rw [ly] at hs
   cases q with
   | false => rfl
   | true => rw [cond_true, z47 fs (i + 1) s hfl hf hs]; rfl
theorem zli {ty : ATy} (h : zmm C ty = true) : zee ty.desc = true \/ ∃ fs, zee ty.desc = false /\ ty.desc.asStruct = some fs /\ ty.eqOk = true /\ zoa C fs 0 = true := by
 grind [zmm]
theorem zkc {ty : ATy} {k : zab} (hk : zee ty.desc = true) (h : zg0 C ty k = true) : zsa ty.desc k = true := by
 grind [zg0]
theorem zjb {ty : ATy} {k : zab} {fs : List (Nat × Nat × Nat)} (hk : zee ty.desc = false) (hfs : ty.desc.asStruct = some fs) (h : zg0 C ty k = true) : ∃ l, k = .agg l /\ zxg C fs l = true := by
 grind [zg0, zhr]
theorem zsb (hT : zdh P C) {t : Nat} {ty : ATy} (hty : C.tys.get t = some ty) {fs : List (Nat × Nat × Nat)} (hfs : ty.desc.asStruct = some fs) (hok : ty.eqOk = true) (hfl : zoa C fs 0 = true) {l : List zab} (hfit : zxg C fs l = true) {b : zab} {va vb : Value} (ha : zaq μ (.agg l) va) (hb : zaq μ b vb) {r : Bool} (h : zfq (.agg l) b = some r) :
  (Op.equal t va vb).run P w = .ok r w := by
 refine zzk3 hT 2 10000 t (.agg l) b _ _ r (by decide) ha hb ?_
 rcases zh8 h with ⟨x, y, e, rfl, h⟩ | ⟨hn, _⟩
 ·cases e
  rw [aeq, hty, zad, hfs]; simp only [zab.asAgg, zad]; rw [hok]; exact z47 fs 0 r hfl hfit h
 ·cases hn
theorem zxh {t : Nat} {k : zab} {kv : Value} (hq : ∀ (b : zab) (vb : Value) (r : Bool), zaq μ b vb -> zfq k b = some r -> (Op.equal t kv vb).run P w = .ok r w) {l : List (zab × zab)} {es : List MapEntry} (hl : zfd (fun p e => zaq μ p.1 e.key /\ zaq μ p.2 e.val) l es) :
  ∀ {i : Nat} {r : Option zab}, zjd k l = some r -> match r with
   | none => (Instr.findAsking t kv es i).run P w = .ok none w
   | some v => ∃ j e0, (Instr.findAsking t kv es i).run P w = .ok (some (i + j, e0.val)) w /\ es[j]? = some e0 /\ zaq μ v e0.val := by
 induction hl with
 | nil => intro i r h; rw [zjd] at h; cases h; rfl
 | @cons p e l es hpe _ ih =>
  intro i r h; rw [zjd, zac] at h; obtain ⟨q, hq', h⟩ := h
  have h1 := hq _ _ _ hpe.1 hq'
  cases q with
  | true =>
   rw [cond_true] at h
   cases h; exact ⟨0, e, by simp_all [Instr.findAsking], rfl, hpe.2⟩
  | false =>
   rw [cond_false] at h; have := ih (i := i + 1) h
   rw [Instr.findAsking, yad, h1, yac]; simp only [ybq, if_false]
   cases r with
   | none => exact this
   | some v =>
    obtain ⟨j, e0, g1, g2, g3⟩ := this
    exact ⟨j + 1, e0, by rw [g1, show i + 1 + j = i + (j + 1) by omega], by simp_all, g3⟩
theorem zmp {t : Nat} {g : Array Field} (hu : P.underlying t = some (.struct g)) (kv : Value) (es : List MapEntry) : (Instr.findKey t kv es).run P w = (Instr.findAsking t kv es).run P w := by
 unfold Instr.findKey; rw [yad, zbd hu, yac]
 cases es with
 | nil => simp only [Instr.findNow, Instr.findAsking]
 | cons e es => simp only [Instr.findNow, Instr.sameNow]
theorem z7h (hT : zdh P C) {t : Nat} {ty : ATy} (hty : C.tys.get t = some ty) (hk : zmm C ty = true) {k : zab} {kv : Value} (hfit : zg0 C ty k = true) (hkv : zaq μ k kv) {l : List (zab × zab)} {es : List MapEntry} (hl : zfd (fun p e => zaq μ p.1 e.key /\ zaq μ p.2 e.val) l es) {r : Option zab} (hr : zjd k l = some r) :
  match r with
  | none => (Instr.findKey t kv es).run P w = .ok none w
  | some v => ∃ j v', (Instr.findKey t kv es).run P w = .ok (some (j, v')) w /\ zaq μ v v' := by
 have hF := hT.facts hty
 rcases zli hk with hkd | ⟨fs, hkd, hfs, hok, hfl⟩
 ·obtain ⟨D, hD⟩ := hF.und
  have hfits := zpb hF hD hkd (zkc hkd hfit)
  have h3 := z7g hfits hkv hl (i := 0) hr
  have hfk : ∀ (q : Option (Nat × Value)), Instr.findNow D kv es 0 = some q -> (Instr.findKey t kv es).run P w = .ok q w := by
   simp_all [Instr.findKey, zbd]
  grind
 ·obtain ⟨x, rfl, hx⟩ := zjb hkd hfs hfit
  obtain ⟨g, hg, rfl⟩ := zfi hF hfs
  have h3 := zxh (P := P) (w := w) (t := t) (kv := kv) (fun b vb r hb h => zsb hT hty hfs hok hfl hx hkv hb h) hl (i := 0) hr
  grind [zmp]
theorem zp6 (hT : zdh P C) {t : Nat} {ty : ATy} (hty : C.tys.get t = some ty) (hk : zmm C ty = true) {k : zab} {kv : Value} (hfit : zg0 C ty k = true) (hkv : zaq μ k kv) {empty : Bool} {d : Nat} : (Instr.checkKey empty (d + 2) t kv).run P w = .ok () w := by
 have hF := hT.facts hty
 rcases zli hk with hkd | ⟨fs, hkd, hfs, hok, hfl⟩
 ·obtain ⟨D, hD⟩ := hF.und
  have hfits := zpb hF hD hkd (zkc hkd hfit)
  have hD' : (∃ k, D = .int k) \/ D = .string \/ D = .bool := by
   rcases hfits with ⟨k, h, _⟩ | ⟨h, _⟩ | ⟨h, _⟩
   all_goals simp_all
  exact zsz hD hD'
 ·obtain ⟨x, rfl, hx⟩ := zjb hkd hfs hfit
  obtain ⟨g, hg, rfl⟩ := zfi hF hfs
  rw [zaq] at hkv; obtain ⟨cs, rfl, hcs⟩ := hkv
  rw [Instr.checkKey, yad, zbd hg, yac]; simp only []; have key : ∀ (gl : List Field) (i : Nat), zoa C (gl.map fun f => (f.offset, f.type, P.cellsOf f.type)) i = true -> zxg C (gl.map fun f => (f.offset, f.type, P.cellsOf f.type)) (x.drop i) = true →
    ∀ f ∈ gl, ∃ v, (part f.type cs f.offset).run P w = .ok v w /\ (Instr.checkKey empty (d + 1) f.type v).run P w = .ok () w := by
   intro gl; induction gl with
   | nil => simp_all
   | cons f0 gl ih =>
    intro i h1 h2 f hf; rw [ycm] at h1 h2; obtain ⟨e1, ⟨fty, hfty, hfkd⟩, h1⟩ := zsk h1
    obtain ⟨v, l, ty', e2, hty', hfit', h2⟩ := zu9 h2
    obtain ⟨gx, lx⟩ := zznu e2.symm
    simp only [] at e1 hfty hty'
    rw [hfty] at hty'; cases hty'
    rcases ybs.1 hf with rfl | hf
    ·obtain ⟨p1, _⟩ := zlj hfkd
     obtain ⟨v', g1, _⟩ := znp (P := P) (w := w) hT hcs (t := f.type) (off := f.offset) (v := v) (by grind [zm1, zad, zbs])
     refine ⟨v', g1, ?_⟩
     rcases zp3 (hT.facts hfty) hfkd with hu | hu | ⟨kk, hu⟩
     all_goals grind [zsz]
    grind
  rw [yad, <- Array.forIn_toList, znj]
  all_goals grind [Sem.run_bind, Result.andThen_ok, Sem.run_pure]
theorem zu4 (hT : zdh P C) (hH : zbp B N μ H w) (hE : zil μ e ρ) {t : Nat} {x i : Operand} {ok : Bool} (h : zh6 t x i ok C e H = some v) : LOk P μ w ρ ⟨dst, .lookup t x i ok, type, pos, after, guard⟩ v := by
 unfold zh6 at h; simp only [zac, zae] at h; obtain ⟨ty, hty, ke, hke, kty, hkty, hkd, ety, hety, m, hm, es, hes, k, hk, hfit, r, hr, h⟩ := h
 have hF := hT.facts hty
 have hKF := hT.facts hkty
 have hEF := hT.facts hety
 have hx := hE _ _ hm
 have hkv := hE _ _ hk
 have hmap : ∃ (rs : Array MapEntry) (es' : List (zab × zab)), zpq es es' /\ zfd (fun p e => zaq μ p.1 e.key /\ zaq μ p.2 e.val) es' rs.toList /\ ((ρ x = .map none /\ rs = #[]) \/ ∃ b clock, ρ x = .map (some b) /\ w.heap[b]? = some (.map rs clock)) := by
  unfold zwz at hes; split at hes
  ·rename_i b hb
   rw [zl7] at hb; subst hb; rw [zaq] at hx; obtain ⟨j, hj, hxv⟩ := hx
   obtain ⟨rs, clock, l', h1, h0, h2⟩ := hH.mapAt hes hj
   grind
  ·simp only [zae, zds] at hes
   obtain ⟨htag, hes⟩ := hes
   cases hes; rw [zk3.2.2.1] at htag; subst htag; rw [zaq] at hx; exact ⟨#[], [], .inl rfl, .nil, .inl ⟨hx, rfl⟩⟩
 obtain ⟨rs, es', hperm, h1, h2⟩ := hmap
 have h3 := z7h (P := P) (w := w) hT hkty hkd hfit hkv h1 (z7j hperm hr)
 have hu := z5r hF hke
 obtain ⟨z, hz, hzr, _⟩ := hEF.zero (μ := μ)
 have hck := fun b => zp6 (P := P) (w := w) (empty := b) (d := 9998) (kv := ρ i) hT hkty hkd hfit hkv
 cases r with
 | none =>
  cases h; refine ⟨if ok then .tuple #[z, .bool false] else z, ?_, ?_⟩
  ·have h4 := h3
   simp only [execOp, Instr.lookup]; rcases h2 with ⟨h5, rfl⟩ | ⟨b, clock, h5, h6⟩
   ·simp_all [zbd]
   ·simp only [yad, zbd hu, yac, h5, zjj h6 (by simp), yae, hck, h4, hz]
  ·cases ok
   ·exact hzr
   ·rw [cond_true, yab rfl, zaq]; exact ⟨_, rfl, .cons hzr (.single (by rw [zaq]))⟩
 | some u =>
  obtain ⟨j, v', h6, h5⟩ := h3
  cases h; refine ⟨if ok then .tuple #[v', .bool true] else v', ?_, ?_⟩
  ·simp only [execOp, Instr.lookup]
   rcases h2 with ⟨h7, rfl⟩ | ⟨b, clock, h7, h8⟩
   ·simp_all [zbd]
   ·simp only [yad, zbd hu, yac, h7, zjj h8 (by simp), yae, hck, h6]
  ·cases ok
   ·exact h5
   ·rw [cond_true, yab rfl, zaq]; exact ⟨_, rfl, .cons h5 (.single (by rw [zaq]))⟩
theorem zrr {s : Sem Value} {v' : Value} (h : s.run P w = .ok v' w) : (do pure (Next.value (<- s)) : Sem Next).run P w = .ok (.value v') w := by
 simp_all
theorem zh3 {b : Builtin} {c : Call} (hc : c.callee = .builtin b) : (execOp ρ ⟨dst, .call c, type, pos, after, guard⟩).run P w = (builtin b c.argTypes type (c.args.map fun | .const _ => true | _ => false) (c.args.map ρ)).run P w := by
 grind [execOp, resolve, invoke]
theorem zfd.length {α β : Type} {R : α -> β -> Prop} {l : List α} {m : List β} (h : zfd R l m) : m.length = l.length := by
 induction h with
 | nil => rfl
 | cons _ _ ih => simp [ih]
theorem zzci (hT : zdh P C) (hH : zbp B N μ H w) (hE : zil μ e ρ) {c : Call} (hc : c.callee = .builtin .len) (h : z2q c C e H = some v) : LOk P μ w ρ ⟨dst, .call c, type, pos, after, guard⟩ v := by
 unfold z2q at h; simp only [zac, zbs] at h; obtain ⟨t, ht, x, hx, ty, hty, a, ha, n, hn, h⟩ := h
 cases h; have hF := hT.facts hty
 have hv := hE _ _ ha
 obtain ⟨D, hD⟩ := hF.und
 have h0 := hF.desc
 unfold zha at h0; rw [hD] at h0; have ht' : c.argTypes[0]? = some t := by simp_all
 have hx' : (c.args.map ρ)[0]? = some (ρ x) := by
  simp_all
 refine ⟨.int .i64 n, ?_, by rw [zaq]; rfl⟩
 rw [zh3 hc]; refine zrr ?_
 simp only [Builtin.len_, ht', hx', yad, zbd hD, yac]; unfold z8i at hn; rw [<- h0] at hn; split at hn
 ·rename_i s hs
  rw [zd1] at hs; subst hs; simp only [zae, za1] at hn; obtain ⟨hb, hn⟩ := hn
  cases hn; rw [zaq] at hv; obtain ⟨str, hxv, rfl⟩ := hv
  rw [hxv, ze4]
  cases D <;> simp [zcy.isString, zcy.tag, Nat.beq] at hb
  rfl
 ·split at hn
  ·rename_i s hs
   rw [zd4] at hs; subst hs; simp only [zae, zds] at hn; obtain ⟨hb, hn⟩ := hn
   cases hn; rw [zaq] at hv; rcases hv with ⟨j, cap', hj, hxv, _⟩ | ⟨_, k, _, A, _, hxv, _⟩
   rotate_left
   ·rw [hxv, k]
    cases D <;> simp [zcy.tag] at hb
    rfl
   rw [hxv]
   cases D <;> simp [zcy.tag] at hb
   rfl
  ·split at hn
   ·rename_i ar har
    cases hn
    cases D <;> simp [zcy.asArr] at har
    subst har; rfl
   ·split at hn
    ·rename_i b hb
     rw [zl7] at hb; subst hb; simp only [zae, zds, zac, za1] at hn; obtain ⟨hb, l, hl, hn⟩ := hn
     cases hn; rw [zaq] at hv; obtain ⟨j, hj, hxv⟩ := hv
     obtain ⟨rs, clock, l', h1, h0, h2⟩ := hH.mapAt hl hj
     rw [hxv]; have h3 := h2.length
     have hlen : l'.length = l.length := by
      rcases h0 with rfl | ⟨p, _⟩
      ·rfl
      ·exact p.length_eq.symm
     rw [hlen] at h3; simp only [ycz] at h3
     cases D <;> simp [zcy.tag] at hb
     simp only [yad, zjj h1 (by simp), yac, h3]
     rfl
    ·simp only [zae, ycq, ybb, zds] at hn
     obtain ⟨hb, hn⟩ := hn
     cases hn; rcases hb with ⟨hb, htag⟩ | ⟨hb, htag⟩
     ·rw [zk3.2.1] at htag
      subst htag; rw [zaq] at hv; rw [hv]
      cases D <;> simp [zcy.tag] at hb
      rfl
     ·rw [zk3.2.2.1] at htag
      subst htag; rw [zaq] at hv; rw [hv]
      cases D <;> simp [zcy.tag] at hb
      rfl
theorem zv0 {c : Call} {p : zab × zab} (hE : zil μ e ρ) (h : two c e = some p) : ∃ x y, c.args = #[x, y] /\ zaq μ p.1 (ρ x) /\ zaq μ p.2 (ρ y) := by
 unfold two at h; split at h
 ·rename_i x y hxy
  simp only [zac] at h; obtain ⟨a, ha, b, hb, h⟩ := h
  cases h; refine ⟨x, y, ?_, hE _ _ ha, hE _ _ hb⟩
  rw [<- yax, hxy]
 ·cases h
theorem zzce (hE : zil μ e ρ) {c : Call} (hc : c.callee = .builtin .max) (h : zzcf c C e H = some v) : LOk P μ w ρ ⟨dst, .call c, type, pos, after, guard⟩ v := by
 unfold zzcf at h; simp only [zac, zdg] at h; obtain ⟨p, hp, a, ha, b, hb, h⟩ := h
 cases h; obtain ⟨x, y, hxy, h1, h2⟩ := zv0 hE hp
 rw [ha, zaq] at h1; rw [hb, zaq] at h2; refine ⟨.int a.1 (if b.2 > a.2 then b.2 else a.2), ?_, ?_⟩
 ·rw [zh3 hc, hxy]
  refine zrr ?_
  simp [Builtin.max_, h1, h2, Builtin.max2]
 grind [zaq, zxa]
theorem zzcc (hE : zil μ e ρ) {c : Call} (hc : c.callee = .builtin .min) (h : zzcd c C e H = some v) : LOk P μ w ρ ⟨dst, .call c, type, pos, after, guard⟩ v := by
 unfold zzcd at h; simp only [zac, zdg] at h; obtain ⟨p, hp, a, ha, b, hb, h⟩ := h
 cases h; obtain ⟨x, y, hxy, h1, h2⟩ := zv0 hE hp
 rw [ha, zaq] at h1; rw [hb, zaq] at h2; refine ⟨.int a.1 (if b.2 < a.2 then b.2 else a.2), ?_, ?_⟩
 ·rw [zh3 hc, hxy]
  refine zrr ?_
  simp [Builtin.min_, h1, h2, Builtin.min2]
 grind [zaq, zxa]
theorem zzez (hT : zdh P C) (hH : zbp B N μ H w) (hE : zil μ e ρ) {o : Oper} (h : (zb2 o.op).f C e H = some v) : LOk P μ w ρ o v := by
 obtain ⟨dst, op, type, pos, after, guard⟩ := o
 cases op
 case move => exact z42 (C := C) (H := H) hE h
 case assign => exact zu5 (C := C) (H := H) hE h
 case pick => exact z41 (C := C) (H := H) hE h
 case load => exact z43 (C := C) (H := H) hT hH hE h
 case nilCheck => exact zzcb (C := C) (H := H) hE h
 case binOp => exact zzck (C := C) (H := H) hT hE h
 case unOp => exact zzj3 (C := C) (H := H) hE h
 case convert => exact z45 (C := C) (H := H) hT hH hE h
 case makeInterface => exact zz4 (C := C) (H := H) hT hE h
 case makeFunc => exact z44 (C := C) (H := H) hE h
 case slice => exact zz2 (C := C) (H := H) hT hH hE h
 case fieldAddr => exact zn2 (C := C) (H := H) hT hE h
 case field => exact zz5 (C := C) (H := H) hT hE h
 case indexAddr => exact zn1 (C := C) (H := H) hT hE h
 case index => exact zz3 (C := C) (H := H) hT hE h
 case extract => exact zr6 (C := C) (H := H) hE h
 case build => exact zz6 (C := C) (H := H) hT hE h
 case typeAssert => exact zu6 (C := C) (H := H) hT hE h
 case lookup => exact zu4 (C := C) (H := H) hT hH hE h
 case call c =>
  have h : (zgj c c.callee).f C e H = some v := h
  unfold zgj at h; split at h
  ·rename_i b hb
   cases b <;> simp only [zqx] at h
   case len => grind [zzci]
   case max => grind [zzce]
   case min => grind [zzcc]
   all_goals cases h
  ·cases h
 all_goals
  have h : zw2 C e H = some v := h
  cases h
end
end Go.Am
namespace Go.Am
open Go Go.RowKit
def Mu.ext (μ : Mu) (a : Nat) (i : BI) : Mu := ⟨fun b => if b = a then some i else μ b, μ.pd⟩
theorem Mu.ext_get {μ : Mu} {a b : Nat} {i : BI} : (μ.ext a i) b = if b = a then some i else μ b := rfl
theorem Mu.ext_le {μ : Mu} {a : Nat} {i : BI} (h : μ a = none) : μ.le (μ.ext a i) := by
 refine ⟨?_, rfl⟩
 grind [Mu.ext_get]
theorem Mu.ext_same {μ : Mu} {a : Nat} {i : BI} : μ.ext a i a = some i := by simp [Mu.ext]
theorem zc3.mono {μ ν : Mu} (h : μ.lw ν) {n : Nat} {tm : Tm} {tmps : Array Value} (k : zc3 μ n tm tmps) : zc3 ν n tm tmps := ⟨k.1, fun i v hv => (k.2 i v hv).mono h _ _⟩
theorem ztk.mono {μ ν : Mu} (h : μ.lw ν) {l : zj1} {r : Loop} (k : ztk μ l r) : ztk ν l r :=
 ⟨k.state, k.pending, k.fn, k.tm.mono h, k.params, k.assign, k.body, by obtain ⟨i, h1, h2⟩ := k.defers; exact ⟨i, h _ _ h1, h2⟩⟩
theorem zfd.mono {α β : Type} {R S : α -> β -> Prop} (h : ∀ a b, R a b -> S a b) {l : List α} {m : List β} (k : zfd R l m) : zfd S l m := by
 induction k with
 | nil => exact .nil
 | cons a _ ih => exact .cons (h _ _ a) ih
theorem zkp.mono {μ ν : Mu} (h : μ.lw ν) {d : zlr} {e : Deferred} (k : zkp μ d e) : zkp ν d e := by
 refine ⟨?_⟩
 have := k.rel
 revert this
 cases d.fn with
 | none => rintro ⟨i, h1, h2⟩; exact ⟨i, h _ _ h1, h2⟩
 | some f => rintro ⟨fn, cap, as, h1, h2, h3⟩; exact ⟨fn, cap, as, h1, h2.mono h, zbw.mono h _ _ h3⟩
theorem zou.mono {μ ν : Mu} (h : μ.lw ν) {i : BI} {x : zav} {o : Obj} (k : zou μ i x o) : zou ν i x o := by
 cases x with
 | cells c n loose =>
  obtain ⟨cs, elem, fr, h1, h2, h3, h4, h5⟩ := k
  refine ⟨cs, elem, fr, h1, h2, h3, fun j v hv => ?_, h5⟩
  obtain ⟨a, v', c, d⟩ := h4 j v hv
  exact ⟨a, v', c, d.mono h _ _⟩
 | map l => obtain ⟨es, clock, l', h1, h0, h2⟩ := k; exact ⟨es, clock, l', h1, h0, h2.mono fun a b r => ⟨r.1.mono h _ _, r.2.mono h _ _⟩⟩
 | loop l => obtain ⟨r, h1, h2⟩ := k; exact ⟨r, h1, h2.mono h⟩
 | deferred l =>
  obtain ⟨l', h1, h2⟩ := k
  refine ⟨l', h1, ?_⟩
  revert h2
  cases l <;> cases l' <;> intro h2 <;> first | trivial | exact h2.elim | grind [zfd.mono, zkp.mono]
 | siter s p => exact k
section
variable {P : Program} {C : Ctx} {B N : Nat} {μ : Mu} {H : zaf} {w : World}
theorem zbp.lt (hH : zbp B N μ H w) {a : Nat} {i : BI} (h : μ a = some i) : a < H.next := by
 refine Nat.lt_of_not_le fun hle => ?_
 rw [(hH.fresh a hle).1] at h; cases h
theorem zbp.newBlk (hH : zbp B N μ H w) {x : zav} {o : Obj} {i : BI} (hib : i.b = w.heap.size) (hro : i.ro = false) (hx : zou (μ.ext H.next i) i x o) : zbp B N (μ.ext H.next i) (newBlk H x) (w.alloc o) := by
 have hle : μ.le (μ.ext H.next i) := Mu.ext_le (hH.fresh _ (ybk _)).1
 have hget : ∀ a, (Am.newBlk H x).t.get a = if a = H.next then some x else H.t.get a := fun a => Tr.get_set _ _ _ _
 refine ⟨hH.base, ?_, ?_, ?_, ?_, ?_, ?_, ?_, ?_, fun a y t ha => ?_⟩
 ·intro g hg; rw [Mu.ext_get, yaa (by have := hH.next; have := hH.base; omega)]; exact hH.glob g hg
 ·intro a y j ha hy hj
  rw [hget, yaa (by have := hH.next; omega)] at hy
  rw [Mu.ext_get, yaa (by have := hH.next; omega)] at hj
  exact hH.low a y j ha hy hj
 ·have := hH.next; show B <= H.next + 1; omega
 ·have := hH.size; simp; omega
 ·intro a ha
  have ha' : H.next + 1 <= a := ha
  rw [hget, yaa (by omega)]
  rw [Mu.ext_get, yaa (by omega)]
  exact hH.fresh a (by omega)
 ·intro a y j hy hj
  rw [hget] at hy; rw [Mu.ext_get] at hj; split at hy
  ·rename_i e; subst e; cases hy
   rw [yab rfl] at hj
   cases hj; refine ⟨o, ?_, hx⟩
   rw [hib]; show (w.heap.push o)[w.heap.size]? = some o; simp
  ·rename_i hne
   rw [yaa hne] at hj; obtain ⟨q, h2, h3⟩ := hH.blk a y j hy hj
   refine ⟨q, ?_, h3.mono hle⟩
   all_goals grind [Below.heap_alloc]
 ·intro a j ha hj
  rw [Mu.ext_get] at hj; split at hj
  ·cases hj; rw [hib]; exact ⟨hH.size, by simp, hro⟩
  ·have := hH.own a j ha hj; exact ⟨this.1, by simp; omega, this.2.2⟩
 ·intro a b y z j k hy hz hj hk ha hb hjk
  rw [hget] at hy hz; rw [Mu.ext_get] at hj hk; by_cases ea : a = H.next
  ·by_cases eb : b = H.next
   ·rw [ea, eb]
   ·exfalso
    rw [yab ea] at hj; rw [yaa eb] at hk
    cases hj; have := (hH.own b k hb hk).2.1; omega
  ·by_cases eb : b = H.next
   ·exfalso
    rw [yaa ea] at hj; rw [yab eb] at hk
    cases hk; have := (hH.own a j ha hj).2.1; omega
   ·rw [yaa ea] at hy hj; rw [yaa eb] at hz hk
    exact hH.inj a b y z j k hy hz hj hk ha hb hjk
 ·obtain ⟨h1, h2, h3⟩ := hH.pnd a y t ha
  have hne : a ≠ H.next := fun e => by rw [e, (hH.fresh _ (ybk _)).2] at h2; cases h2
  grind [Mu.ext_get]
theorem zbp.drew (hH : zbp B N μ H w) : zbp B N μ H w.drew := ⟨hH.base, hH.glob, hH.low, hH.next, hH.size, hH.fresh, hH.blk, hH.own, hH.inj, hH.pnd⟩
def World.setBlk (w : World) (g : Nat) (o : Obj) : World := { w with heap := w.heap.setIfInBounds g o }
theorem zwg (w : World) (g : Nat) (a b : Obj) : World.setBlk (World.setBlk w g a) g b = World.setBlk w g b := by
 unfold World.setBlk; simp
theorem zgg (w : World) (g k : Nat) (o : Obj) : (World.setBlk w g o).heap[k]? = if k = g /\ g < w.heap.size then some o else w.heap[k]? := by
 grind [World.setBlk]
theorem zmj {g j : Nat} {cur : Array Value} {t : TypeId} {fz : Nat × Nat} {v : Value} (h : w.heap[g]? = some (.cells cur t fz)) : w.setCell ⟨g, j, none⟩ v = World.setBlk w g (.cells (cur.setIfInBounds j v) t fz) := by
 unfold World.setCell World.setBlk; congr 1
 grind
theorem zir {g o : Nat} {t : TypeId} {fz : Nat × Nat} : ∀ (vs : List Value) (i : Nat) (cur : Array Value) (w : World), w.heap[g]? = some (.cells cur t fz) -> (fz.2 <= fz.1 \/ cur.size <= fz.1) →
  o + i + vs.length <= cur.size -> (∀ v ∈ vs, v.oneCell' = true) →
  ∃ cur', cur'.size = cur.size /\ (∀ j : Nat, cur'[j]? = if o + i <= j /\ j < o + i + vs.length then vs[j - (o + i)]? else cur[j]?) ∧
   (storeCells ⟨g, o, none⟩ vs i).run P w = .ok () (World.setBlk w g (.cells cur' t fz)) := by
 intro vs; induction vs with
 | nil =>
  intro i cur w h _ _ _; refine ⟨cur, rfl, fun j => by rw [yaa (by simp)], ?_⟩
  have : World.setBlk w g (.cells cur t fz) = w := by
   unfold World.setBlk; have : w.heap.setIfInBounds g (.cells cur t fz) = w.heap := by
    grind
   rw [this]
  rw [this]; rfl
 | cons v vs ih =>
  intro i cur w h hfz hlen h1; simp only [ybn] at hlen; have hg : g < w.heap.size := (ybe.1 h).1
  have hc : w.cell? ⟨g, o + i, none⟩ = some (cur[o + i]'(by omega)) := by simp [World.cell?, h]
  have hf : w.frozen? ⟨g, o + i, none⟩ = false := by
   grind [World.frozen?]
  have hst : (store (Addr.add ⟨g, o, none⟩ i) v).run P w = .ok () (World.setBlk w g (.cells (cur.setIfInBounds (o + i) v) t fz)) := by
   grind [zms, run_store, zmj]
  obtain ⟨cur', hs, hj, hr⟩ := ih (i + 1) (cur.setIfInBounds (o + i) v) (World.setBlk w g (.cells (cur.setIfInBounds (o + i) v) t fz)) (by rw [zgg, yab ⟨rfl, hg⟩]) (by simp_all) (by grind) (fun u hu => h1 u (by simp [hu]))
  grind [storeCells, Sem.run_bind, Result.andThen_ok, zwg]
theorem zbp.upd (hH : zbp B N μ H w) {a : Nat} {x x' : zav} {i : BI} {o' : Obj} (hx : H.t.get a = some x) (hi : μ a = some i) (ha : B <= a) (hb : zou μ i x' o') : zbp B N μ (setBlk H a x') (World.setBlk w i.b o') := by
 have hget : ∀ b, (Am.setBlk H a x').t.get b = if b = a then some x' else H.t.get b := fun b => Tr.get_set _ _ _ _
 have hlt := (hH.own a i ha hi).2.1
 refine ⟨hH.base, hH.glob, ?_, hH.next, ?_, ?_, ?_, ?_, ?_, fun b y t hb => ?_⟩
 ·intro b y j hb hy hj; rw [hget, yaa (by omega)] at hy; exact hH.low b y j hb hy hj
 ·have := hH.size; grind [World.setBlk]
 ·intro b hb
  have hb' : H.next <= b := hb
  have := hH.lt hi
  rw [hget, yaa (by omega)]
  exact hH.fresh b hb'
 ·intro b y j hy h1
  rw [hget] at hy; split at hy
  ·grind [zgg]
  ·rename_i hne
   obtain ⟨q, h2, h3⟩ := hH.blk b y j hy h1
   refine ⟨q, ?_, h3⟩
   rw [zgg, yaa]
   ·exact h2
   ·rintro ⟨e, _⟩
    by_cases hb : B <= b
    ·exact hne (hH.inj b a y x j i hy hx h1 hi hb ha e)
    ·have h5 := (hH.low b y j (by omega) hy h1).1
     have h6 := (hH.own a i ha hi).1
     omega
 ·intro b j hb hj; have := hH.own b j hb hj; grind [World.setBlk]
 ·intro b c y z j k hy hz hj hk hb hc hjk
  have key : ∀ b y, (Am.setBlk H a x').t.get b = some y -> ∃ y', H.t.get b = some y' := by
   grind
  obtain ⟨y', hy'⟩ := key b y hy
  obtain ⟨z', hz'⟩ := key c z hz
  exact hH.inj b c y' z' j k hy' hz' hj hk hb hc hjk
 ·obtain ⟨h1, h2, h3⟩ := hH.pnd b y t hb
  grind
theorem zc9 {g : Nat} {o : Obj} (h : N <= g) : Below N w (World.setBlk w g o) :=
 ⟨rfl, rfl, rfl, by simp [World.setBlk], fun k hk => by rw [zgg, yaa (by omega)]⟩
theorem zbw.one {l : List zab} : ∀ {vs : List Value}, zbw μ l vs -> (∀ a ∈ l, a.one = true) -> ∀ v ∈ vs, v.oneCell' = true := by
 induction l with
 | nil => grind [zbw]
 | cons a l ih =>
  intro vs h k v hv; rw [zbw] at h; obtain ⟨u, r, rfl, h1, h2⟩ := h
  rcases ybs.1 hv with rfl | hv
  ·exact h1.one (k a (by simp))
  grind
theorem zou.write {i : BI} {c : Tr zab} {n : Nat} {loose : Option Lo} {cs cs' : Array Value} {elem : TypeId} {fr : Nat × Nat} (h : zou μ i (.cells c n loose) (.cells cs elem fr)) {l : List zab} {vs : List Value} (hl : zbw μ l vs)
  {off : Nat} (hoff : off + l.length <= n) (hs : cs'.size = cs.size) (hj : ∀ j : Nat, cs'[j]? = if off <= j /\ j < off + vs.length then vs[j - off]? else cs[j]?) : zou μ i (.cells (c.setMany l off) n loose) (.cells cs' elem fr) := by
 obtain ⟨cs0, elem0, fr0, e, h2, h3, h4, h5⟩ := h
 cases e
 have hlen := hl.length
 refine ⟨cs', elem, fr, rfl, by omega, by simp_all, fun j v hv => ?_, by simp_all⟩
 rw [Tr.get_setMany] at hv; split at hv
 ·rename_i hjr
  obtain ⟨u, hu, hr⟩ := hl.get hv
  grind
 grind
theorem zyw (hbase : B <= C.base) (hH : zbp B N μ H w) {b off : Nat} {l : List zab} {H' : zaf} (h : zdw C H b off l = some H') {i : BI} (hi : μ b = some i) {vs : List Value} (hl : zbw μ l vs) :
  ∃ w', (storeCells ⟨i.b, off, none⟩ vs).run P w = .ok () w' /\ zbp B N μ H' w' /\ Below N w w' := by
 unfold zdw at h; simp only [zae, zac, ybb, zg3, za1, zc5, ycp] at h; obtain ⟨hb, c, hc, ⟨hle, hall⟩, h⟩ := h
 cases h; have hb' : B <= b := by
  grind [zdk]
 have hx := zdo hc
 obtain ⟨o, h2, h3⟩ := hH.blk _ _ _ hx hi
 have h3' := h3
 obtain ⟨cs, elem, fr, rfl, h4, h5, _, _⟩ := h3
 have hone : ∀ a ∈ l, a.one = true := fun a ha => ycb.1 hall a ha
 have hlen := hl.length
 have hown := hH.own b i hb' hi
 have h5 := h5.resolve_left (by simp_all)
 obtain ⟨cs', hs, hj, hr⟩ := zir (P := P) (o := off) vs 0 cs w h2 h5 (by omega) (hl.one hone)
 exact ⟨_, hr, hH.upd hx hi hb' (h3'.write hl hle hs (by omega)), zc9 hown.1⟩
theorem zbw.rel_one {l : List zab} {vs : List Value} (hl : zbw μ l vs) {i : BI} (ht : i.tight = true) {elem : TypeId} : zou μ i (.cells (Tr.ofList l) (zbf l) none) (.cells vs.toArray elem (0, 0)) := by
 have hlen := hl.length
 refine ⟨vs.toArray, elem, (0, 0), rfl, by grind [za1], .inr (.inl (ybk _)), fun j v hv => ?_, ht⟩
 rw [Tr.get_ofList] at hv; obtain ⟨u, hu, hr⟩ := hl.get hv
 grind [za1]
theorem zbp.newTight (hH : zbp B N μ H w) {l : List zab} {vs : List Value} (hl : zbw μ l vs) (elem : TypeId) :
  zbp B N (μ.ext H.next ⟨w.heap.size, true, 0, 0, false⟩) (za7 H l none) (w.alloc (.cells vs.toArray elem)) :=
 hH.newBlk rfl rfl ((zbw.mono (Mu.ext_le (hH.fresh _ (ybk _)).1).f _ _ hl).rel_one rfl)
theorem zbp.newTag (hH : zbp B N μ H w) {l : List zab} {vs : List Value} (hl : zbw μ l vs) (elem : TypeId) :
  zbp B N (μ.ext H.next ⟨w.heap.size, false, 1, vs.length, false⟩) (za7 H l (some (.ty elem))) (w.alloc (.cells vs.toArray elem)) := by
 have h := (zbw.mono (Mu.ext_le (hH.fresh _ (ybk _)).1 (i := ⟨w.heap.size, false, 1, vs.length, false⟩)).f _ _ hl)
 have hn := hl.length
 refine hH.newBlk rfl rfl ⟨vs.toArray, elem, (0, 0), rfl, by grind [za1], .inr (.inl (ybk _)), fun j v hv => ?_, rfl, rfl, by simp, fun t e => by grind⟩
 rw [Tr.get_ofList] at hv; obtain ⟨u, hu, hr⟩ := h.get hv
 grind [za1]
theorem zcn (h : N <= w.heap.size) (o : Obj) : Below N w (w.alloc o) := (Below.refl N w).alloc h o
def Mu.wait (μ : Mu) (a : Nat) (x : zav × Nat × Nat) : Mu := ⟨μ.m, fun b => if b = a then some x else μ.pd b⟩
def Mu.land (μ : Mu) (a : Nat) (i : BI) : Mu := ⟨fun b => if b = a then some i else μ b, fun b => if b = a then none else μ.pd b⟩
theorem zbp.early (hH : zbp B N μ H w) {x : zav} {t : Nat × Nat} : zbp B N (μ.wait H.next (x, t)) (Am.newBlk H x) w := by
 have hget : ∀ a, (Am.newBlk H x).t.get a = if a = H.next then some x else H.t.get a := fun a => Tr.get_set _ _ _ _
 have hn := hH.fresh _ (ybk _)
 have gone : ∀ a i, μ a = some i -> a ≠ H.next := fun a i h e => by simp_all
 have bm : ∀ i y o, zou μ i y o -> zou (μ.wait H.next (x, t)) i y o := fun i y o h => zou.mono (μ := μ) (ν := μ.wait H.next (x, t)) (fun _ _ h => h) h
 refine ⟨hH.base, hH.glob, fun a y i ha hy hi => ?_, by have := hH.next; show B <= H.next + 1; omega, hH.size, fun a ha => ?_, fun a y i hy hi => ?_, hH.own, fun a b y z i j hy hz hi hj => ?_, fun a y s ha => ?_⟩
 ·rw [hget, yaa (gone a i hi)] at hy; exact hH.low a y i ha hy hi
 ·have ha' : H.next + 1 <= a := ha
  have := hH.fresh a (by omega)
  exact ⟨this.1, by grind⟩
 ·rw [hget, yaa (gone a i hi)] at hy
  obtain ⟨o, h1, h2⟩ := hH.blk a y i hy hi
  simp_all
 ·rw [hget, yaa (gone a i hi)] at hy
  rw [hget, yaa (gone b j hj)] at hz
  exact hH.inj a b y z i j hy hz hi hj
 ·change (if a = H.next then some (x, t) else μ.pd a) = some (y, s) at ha
  split at ha
  ·rename_i e; cases ha; subst e
   exact ⟨hn.1, by rw [hget, yab rfl], hH.next⟩
  ·rename_i e
   obtain ⟨h1, h2, h3⟩ := hH.pnd a y s ha
   exact ⟨h1, by simp_all, h3⟩
theorem zbp.late (hH : zbp B N μ H w) {a : Nat} {x : zav} {t : Nat × Nat} {o : Obj} {i : BI} (hp : μ.pd a = some (x, t)) (hib : i.b = w.heap.size) (hro : i.ro = false) (hx : zou (μ.land a i) i x o) : zbp B N (μ.land a i) H (w.alloc o) := by
 obtain ⟨p1, p2, p3⟩ := hH.pnd a x t hp
 have lg : ∀ b, (μ.land a i) b = if b = a then some i else μ b := fun _ => rfl
 have hle : μ.lw (μ.land a i) := fun b j hj => by
  grind
 have hbase := hH.base
 refine ⟨hH.base, fun g hg => by rw [lg, yaa (by omega)]; exact hH.glob g hg, fun b y j hb hy hj => ?_, hH.next, by have := hH.size; simp; omega, fun b hb => ?_, fun b y j hy hj => ?_, fun b j hb hj => ?_, fun b c y z j k hy hz hj hk hb hc hjk => ?_, fun b y s hb => ?_⟩
 ·rw [lg, yaa (by omega)] at hj; exact hH.low b y j hb hy hj
 ·have := hH.fresh b hb
  grind
 ·rw [lg] at hj
  split at hj
  ·rename_i e; subst e; cases hj
   rw [p2] at hy; cases hy; exact ⟨o, by rw [hib]; show (w.heap.push o)[w.heap.size]? = some o; simp, hx⟩
  ·obtain ⟨q, h2, h3⟩ := hH.blk b y j hy hj
   refine ⟨q, ?_, h3.mono hle⟩
   all_goals grind [Below.heap_alloc]
 ·rw [lg] at hj
  split at hj
  ·cases hj; rw [hib]; exact ⟨hH.size, by simp, hro⟩
  ·have := hH.own b j hb hj; exact ⟨this.1, by simp; omega, this.2.2⟩
 ·rw [lg] at hj hk
  by_cases eb : b = a
  ·by_cases ec : c = a
   ·rw [eb, ec]
   ·exfalso
    rw [yab eb] at hj; rw [yaa ec] at hk
    cases hj; have := (hH.own c k hc hk).2.1; omega
  ·by_cases ec : c = a
   ·exfalso
    rw [yaa eb] at hj; rw [yab ec] at hk
    cases hk; have := (hH.own b j hb hj).2.1; omega
   ·rw [yaa eb] at hj; rw [yaa ec] at hk
    exact hH.inj b c y z j k hy hz hj hk hb hc hjk
 ·change (if b = a then none else μ.pd b) = some (y, s) at hb
  split at hb
  ·cases hb
  ·rename_i e
   obtain ⟨h1, h2, h3⟩ := hH.pnd b y s hb
   simp_all
theorem zbp.ext_le (hH : zbp B N μ H w) {i : BI} : μ.le (μ.ext H.next i) := Mu.ext_le (hH.fresh _ (ybk _)).1
end
end Go.Am
namespace Go.Am
open Go Go.RowKit
section
variable {P : Program} {C : Ctx} {B N : Nat} {μ : Mu} {H H' : zaf} {w : World}
variable {e : Env} {ρ : Operand -> Value} {dst : Option Tmp} {type : TypeId} {pos : String} {after : Array Edge} {guard : Option (Nat × Bool)} {v : zab}
def z3s (P : Program) (B N : Nat) (μ : Mu) (w : World) (ρ : Operand -> Value) (o : Oper) (v : zab) (H' : zaf) : Prop :=
 ∃ v' w' μ', ((execOp ρ o).run P w = .ok (.value v') w' \/ ((execOp ρ o).run P w = .ok .skip w' /\ v' = undef)) /\ μ.le μ' /\ zbp B N μ' H' w' /\ Below N w w' /\ zaq μ' v v'
theorem LOk.hv (hH : zbp B N μ H w) {o : Oper} (h : LOk P μ w ρ o v) : z3s P B N μ w ρ o v H := by
 obtain ⟨v', h1, h2⟩ := h
 exact ⟨v', w, μ, .inl h1, μ.le_refl, hH, Below.refl _ _, h2⟩
theorem zep {x : Option (zab × zaf)} {v : zab} {H' : zaf} (h : ztm x = .val v H') : x = some (v, H') := by
 unfold ztm at h; grind
theorem ze2 {elem : TypeId} {cs : Array Value} : (newRow elem cs).run P w = .ok ⟨w.heap.size, 0, none⟩ (w.alloc (.cells cs elem)) := by
 simp [newRow]
theorem zlv {elem : TypeId} {v : Value} : (newVar elem v).run P w = .ok ⟨w.heap.size, 0, none⟩ (w.alloc (.cells v.cells elem)) := ze2
theorem zyq : zaq μ zbj undef := by rw [zbj, zaq]; exact ⟨_, rfl, .nil⟩
theorem z6h {t : Nat} {e : Lo} (h : zhz C t = some e) : e = .ty t := by
 grind [zhz]
theorem zbp.newVar (hH : zbp B N μ H w) {l : List zab} {vs : List Value} (hl : zbw μ l vs) {t : Nat} :
  ∃ i : BI, i.b = w.heap.size /\ zbp B N (μ.ext H.next i) (za7 H l (zhz C t)) (w.alloc (.cells vs.toArray t)) := by
 cases ht : zhz C t with
 | none => exact ⟨_, rfl, hH.newTight hl t⟩
 | some e =>
  have := z6h ht
  subst this; exact ⟨_, rfl, hH.newTag hl t⟩
theorem zzc5 (hT : zdh P C) (hH : zbp B N μ H w) {t : Nat} (h : zp5 t C e H = .val v H') : z3s P B N μ w ρ ⟨dst, .alloc t, type, pos, after, guard⟩ v H' := by
 have h := zep h
 simp only [zac] at h; obtain ⟨ty, hty, h⟩ := h
 cases h; obtain ⟨z, hz, _, hzl⟩ := (hT.facts hty).zero (μ := μ)
 obtain ⟨i, hi, hn⟩ := hH.newVar (C := C) (t := t) hzl
 refine ⟨.pointer (some ⟨w.heap.size, 0, none⟩), w.alloc (.cells z.cells t), _, .inl ?_, hH.ext_le, by rwa [Array.toArray_toList] at hn, zcn hH.size _, by grind [zaq, Mu.ext_same]⟩
 simp_all [execOp, Instr.alloc, zlv]
theorem zzng (hH : zbp B N μ H w) (hE : zil μ e ρ) {t : Nat} {x : Operand} (h : zzhu t x C e H = .val v H') : z3s P B N μ w ρ ⟨dst, .box t x, type, pos, after, guard⟩ v H' := by
 have h := zep h
 simp only [zac] at h; obtain ⟨a, ha, h⟩ := h
 cases h; obtain ⟨i, hi, hn⟩ := hH.newVar (C := C) (t := t) (zol (hE _ _ ha))
 refine ⟨.pointer (some ⟨w.heap.size, 0, none⟩), w.alloc (.cells (ρ x).cells t), _, .inl ?_, hH.ext_le, by rwa [Array.toArray_toList] at hn, zcn hH.size _, by grind [zaq, Mu.ext_same]⟩
 simp_all [execOp, Instr.box, zlv]
theorem z14 (z : List zab) : ∀ n, (zqg z n).length = n * z.length := by
 intro n; induction n with
 | zero => simp [zqg]
 | succ n ih => grind [zqg, zca]
theorem zzgs (z : List zab) : ∀ (n j : Nat), j < n * z.length -> (zqg z n)[j]? = z[j % z.length]? := by
 intro n; induction n with
 | zero => omega
 | succ n ih =>
  grind [zqg, zca, Nat.mod_eq_of_lt, List.getElem?_append_right, Nat.mod_eq_sub_mod]
theorem z13 {z : List zab} {zv : Array Value} (hz : zbw μ z zv.toList) (n : Nat) : zbw μ (zqg z n) ((Array.range (n * z.length)).map (zv[· % zv.size]!)).toList := by
 have hl := hz.length
 simp only [ycz] at hl; refine zbw.mk (by simp [z14]) fun j a v ha hv => ?_
 have hj : j < n * z.length := by grind
 rw [zzgs z n j hj] at ha; obtain ⟨u, hu, hr⟩ := hz.get ha
 grind
theorem zt1 (hT : zdh P C) (hH : zbp B N μ H w) (hE : zil μ e ρ) {t len : Nat} {parts : Array (Nat × Operand)} (h : zex t len parts C e H = .val v H') : z3s P B N μ w ρ ⟨dst, .buildSlice t len parts, type, pos, after, guard⟩ v H' := by
 have h := zep h
 simp only [zac, zae, ybb, zdk, zds, za1] at h; obtain ⟨ty, hty, el, hel, et, het, ⟨hlt, hzs⟩, ps, hps, l, hl, h⟩ := h
 cases h; have hF := hT.facts het
 obtain ⟨z, hz, _, hzl⟩ := hF.zero (μ := μ)
 have hzlen := hzl.length
 simp only [ycz] at hzlen; have hrel := z13 hzl len
 rw [hzs] at hrel; obtain ⟨out, ho, hr⟩ := zq2 (hE.parts hps) hrel hl
 have hol : out.size = l.length := by simpa using hr.length
 refine ⟨.slice (some ⟨w.heap.size, 0, none⟩) len len, w.alloc (.cells out el), _, .inl ?_, hH.ext_le, by have := hH.newTight hr el; rwa [Array.toArray_toList] at this, zcn hH.size _, ?_⟩
 ·have h1 : ¬ len * et.size > 2 ^ 24 := by omega
  by_cases h0 : len * et.size = 0
  ·have harr : ((Array.range (len * et.size)).map ((#[] : Array Value)[· % (#[] : Array Value).size]!)) = (Array.range (len * et.size)).map (z.cells[· % z.cells.size]!) := by grind
   simp only [execOp, Instr.buildSlice, yad, zbd (zdb (hT.facts hty) hel), yac, hF.size, yaa h1, yab h0, yae, harr, Array.toList_map, ho, ze2]
  ·simp only [execOp, Instr.buildSlice, yad, zbd (zdb (hT.facts hty) hel), yac, hF.size, yaa h1, yaa h0, yae, hz, Array.toList_map, ho, ze2]
 simp_all [zaq, Mu.ext_same]
theorem zzhz (hT : zdh P C) (hE : zil μ e ρ) (o : Oper) (hf : ze5 o.op = true) (hlo : zzg7 C o.op = none) (h : (aop o.op).f C e H = .val v H') :
  ∃ l vs v' elem, H' = za7 H l none /\ (execOp ρ o).run P w = .ok (.value v') (w.alloc (.cells vs elem)) /\ zbw μ l vs.toList /\ ∀ (ν : Mu) (i : BI), ν H.next = some i -> i.b = w.heap.size -> i.tight = true -> zaq ν v v' := by
 obtain ⟨dst, op, type, pos, after, guard⟩ := o
 cases op <;> first | (simp [ze5] at hf; done) | skip
 case alloc t =>
  have h := zep (show zp5 t C e H = .val v H' from h)
  rw [show zhz C t = none from hlo] at h; simp only [zac] at h; obtain ⟨ty, hty, h⟩ := h
  cases h; obtain ⟨z, hz, _, hzl⟩ := (hT.facts hty).zero (μ := μ)
  refine ⟨_, z.cells, .pointer (some ⟨w.heap.size, 0, none⟩), t, rfl, ?_, hzl, fun ν i h1 h2 _ => by grind [zaq]⟩
  simp_all [execOp, Instr.alloc, zlv]
 case box t x =>
  have h := zep (show zzhu t x C e H = .val v H' from h)
  rw [show zhz C t = none from hlo] at h; simp only [zac] at h; obtain ⟨a, ha, h⟩ := h
  cases h; refine ⟨_, (ρ x).cells, .pointer (some ⟨w.heap.size, 0, none⟩), t, rfl, ?_, zol (hE _ _ ha), fun ν i h1 h2 _ => by grind [zaq]⟩
  simp_all [execOp, Instr.box, zlv]
 case buildSlice t len parts =>
  have h := zep (show zex t len parts C e H = .val v H' from h)
  simp only [zac, zae, ybb, zdk, zds, za1] at h; obtain ⟨ty, hty, el, hel, et, het, ⟨hlt, hzs⟩, ps, hps, l, hl, h⟩ := h
  cases h; have hF := hT.facts het
  obtain ⟨z, hz, _, hzl⟩ := hF.zero (μ := μ)
  have hrel := z13 hzl len
  rw [hzs] at hrel; obtain ⟨out, ho, hr⟩ := zq2 (hE.parts hps) hrel hl
  refine ⟨_, out, .slice (some ⟨w.heap.size, 0, none⟩) len len, el, rfl, ?_, hr, fun ν i h1 h2 h3 => by simp_all [zaq]⟩
  have h1 : ¬ len * et.size > 2 ^ 24 := by omega
  by_cases h0 : len * et.size = 0
  ·have harr : ((Array.range (len * et.size)).map ((#[] : Array Value)[· % (#[] : Array Value).size]!)) = (Array.range (len * et.size)).map (z.cells[· % z.cells.size]!) := by grind
   simp only [execOp, Instr.buildSlice, yad, zbd (zdb (hT.facts hty) hel), yac, hF.size, yaa h1, yab h0, yae, harr, Array.toList_map, ho, ze2]
  ·simp only [execOp, Instr.buildSlice, yad, zbd (zdb (hT.facts hty) hel), yac, hF.size, yaa h1, yaa h0, yae, hz, Array.toList_map, ho, ze2]
theorem z7f {o : Op} (hf : ze5 o = true) (hlo : zzg7 C o = none) (h : (aop o).f C e H = .val v H') : ∃ l, H' = za7 H l none := by
 cases o <;> first | (simp [ze5] at hf; done) | skip
 case alloc t =>
  have h := zep (show zp5 t C e H = .val v H' from h)
  rw [show zhz C t = none from hlo] at h; grind [zac]
 case box t x =>
  have h := zep (show zzhu t x C e H = .val v H' from h)
  rw [show zhz C t = none from hlo] at h; grind [zac]
 case buildSlice t len parts =>
  have h := zep (show zex t len parts C e H = .val v H' from h)
  grind [zac, zae]
theorem z2x {e' : Env} (h : ∀ x, ev x e = ev x e') {o : Op} (hf : ze5 o = true) (H : zaf) : (aop o).f C e H = (aop o).f C e' H := by
 cases o <;> first | (simp [ze5] at hf; done) | rfl | skip
 case box t x => show zzhu t x C e H = zzhu t x C e' H; grind [zzhu]
 case buildSlice t len ps => show zex t len ps C e H = zex t len ps C e' H; grind [zex, evp]
theorem zz9 (hT : zdh P C) (hbase : B <= C.base) (hH : zbp B N μ H w) (hE : zil μ e ρ) {t : Nat} {a x : Operand} (h : z0a t a x C e H = .val v H') : z3s P B N μ w ρ ⟨dst, .store t a x, type, pos, after, guard⟩ v H' := by
 have h := zep h
 simp only [zac, zae, zds, za1, zgo] at h; obtain ⟨ty, hty, av, ha, p, rfl, xv, hx, hs, H1, h1, h⟩ := h
 cases h; have hF := hT.facts hty
 have hp := hE _ _ ha
 rw [zaq] at hp; obtain ⟨i, hi, hpv⟩ := hp
 have hc := zol (hE _ _ hx)
 obtain ⟨w', h2, h3, h4⟩ := zyw (P := P) hbase hH h1 hi hc
 have hcl := hc.length
 simp only [ycz] at hcl; refine ⟨undef, w', μ, .inr ⟨?_, rfl⟩, μ.le_refl, h3, h4, zyq⟩
 have h5 : ¬ (ρ x).cells.size ≠ ty.size := by omega
 simp only [execOp, Instr.storeAt, hpv, Instr.sureAddr, yad, yae, yac, storeVar, hF.size, Sem.run_ite, yaa h5, h2]
theorem z2v (hH : zbp B N μ H w) {t : Nat} {r : Option Operand} (h : zn6 r C e H = .val v H') : z3s P B N μ w ρ ⟨dst, .makeMap t r, type, pos, after, guard⟩ v H' := by
 unfold zn6 at h; split at h
 ·injection h with h1 h2
  subst h1 h2
  refine ⟨.map (some w.heap.size), w.alloc (.map #[] 0), _, .inl ?_, hH.ext_le, hH.newBlk (i := ⟨w.heap.size, true, 0, 0, false⟩) rfl rfl ⟨#[], 0, [], rfl, .inl rfl, .nil⟩, zcn hH.size _, by simp_all [zaq, Mu.ext_same]⟩
  simp [execOp, Instr.makeMap]
 ·cases h
theorem zxb (hT : zdh P C) (hH : zbp B N μ H w) (hE : zil μ e ρ) {t : Nat} {l c : Operand} (h : zpc t l c C e H = .val v H') : z3s P B N μ w ρ ⟨dst, .makeSlice t l c, type, pos, after, guard⟩ v H' := by
 have h := zep h
 simp only [zac, zae, ybb, zg3, zdk, zds, za1, zl6] at h; obtain ⟨ty, hty, el, hel, et, het, lv', hl, ln, ⟨k1, rfl⟩, cv, hc, cn, ⟨k2, rfl⟩, ⟨⟨⟨h1, h2⟩, h3⟩, h4⟩, h⟩ := h
 cases h; have hF := hT.facts het
 obtain ⟨z, hz, _, hzl⟩ := hF.zero (μ := μ)
 have hrel := z13 hzl cn
 rw [h4] at hrel; have hlv := hE _ _ hl
 rw [zaq] at hlv; have hcv := hE _ _ hc
 rw [zaq] at hcv; obtain ⟨inf, hinf, hsz, hby, _⟩ := hF.info
 refine ⟨.slice (some ⟨w.heap.size, 0, none⟩) ln cn, w.alloc (.cells ((Array.range (cn * et.size)).map (z.cells[· % z.cells.size]!)) el), _, .inl ?_, hH.ext_le, by have := hH.newTight hrel el; rwa [Array.toArray_toList] at this, zcn hH.size _, ?_⟩
 ·have hw1 : IntKind.i64.wrap (ln : Int) = ln := zgc (by grind [kHi])
  have hw2 : IntKind.i64.wrap (cn : Int) = cn := zgc (by grind [kHi])
  have hb : (et.bytes : Int) * (cn : Int) = ((cn * et.bytes : Nat) : Int) := by grind
  have hc1 : (((cn : Int) < 0 || decide ((et.bytes : Int) * (cn : Int) > 2 ^ 48)) || decide ((ln : Int) < 0) || decide ((ln : Int) > (cn : Int))) = false := by
   grind
  have hnn : ¬ ((((cn : Int) < 0 || decide ((et.bytes : Int) * (cn : Int) > 2 ^ 48)) || decide ((ln : Int) < 0) || decide ((ln : Int) > (cn : Int))) = true) := by simp_all
  by_cases h0 : cn * et.size = 0
  ·have harr : ((Array.range (cn * et.size)).map ((#[] : Array Value)[· % (#[] : Array Value).size]!)) = (Array.range (cn * et.size)).map (z.cells[· % z.cells.size]!) := by grind
   simp only [execOp, Instr.makeSlice, yad, zbd (zdb (hT.facts hty) hel), yac, hlv, hcv, asInt, asIntOf, yae, zj7 hinf, hby, hw1, hw2, yaa hnn, run_askRoom, hF.size, Int.toNat_natCast, yab h0, harr, ze2]
  ·simp only [execOp, Instr.makeSlice, yad, zbd (zdb (hT.facts hty) hel), yac, hlv, hcv, asInt, asIntOf, yae, zj7 hinf, hby, hw1, hw2, yaa hnn, run_askRoom, hF.size, Int.toNat_natCast, yaa h0, hz, ze2]
 simp_all [zaq, Mu.ext_same]
end
end Go.Am
namespace Go.Am
open Go Go.RowKit
section
variable {P : Program} {C : Ctx} {B N : Nat} {μ : Mu} {H H' : zaf} {w : World}
variable {e : Env} {ρ : Operand -> Value} {dst : Option Tmp} {type : TypeId} {pos : String} {after : Array Edge} {guard : Option (Nat × Bool)} {v : zab}
def z8e (μ : Mu) (p : zab × zab) (e : MapEntry) : Prop := zaq μ p.1 e.key /\ zaq μ p.2 e.val
theorem zse {n : Nat} {a b : zab} {va vb : Value} (ha : zaq μ a va) (hb : zaq μ b vb) (h : zh9 a b = some true) : Instr.sameBits n vb va = true := by
 rcases zgk h with ⟨k, x, y, rfl, rfl, hr⟩ | ⟨x, y, rfl, rfl, hr⟩ | ⟨x, y, rfl, rfl, hr⟩ <;> rw [zaq] at ha <;> rw [zaq] at hb
 ·grind [Instr.sameBits]
 ·obtain ⟨s, rfl, rfl⟩ := ha
  obtain ⟨u, rfl, rfl⟩ := hb
  have h1 := zl5 ((zf3 _ _).1 hr.symm)
  rw [h1]; have h2 : (u == u) = true := by
   show (u.data == u.data) = true
   simp
  grind [Instr.sameBits]
 grind [Instr.sameBits]
theorem zr9 {n : Nat} : ∀ {x y : List zab} {vx vy : List Value}, zbw μ x vx -> zbw μ y vy -> zkt x y = some true -> vy.length = vx.length /\ ((vy.zip vx).all fun (a, b) => Instr.sameBits n a b) = true
 | [], [], vx, vy, hx, hy, _ => by
  simp_all [zbw]
 | a :: x, b :: y, vx, vy, hx, hy, h => by
  simp only [zkt, zac] at h; obtain ⟨r, hr, s, hs, h⟩ := h
  cases r <;> cases s <;> simp at h
  rw [zbw] at hx hy; obtain ⟨va, rx, rfl, h1, h2⟩ := hx
  obtain ⟨vb, ry, rfl, h3, h4⟩ := hy
  obtain ⟨g1, g2⟩ := zr9 (n := n) h2 h4 hs
  grind [List.zip_cons_cons, zse]
 | [], _ :: _, _, _, _, _, h => by cases h
 | _ :: _, [], _, _, _, _, h => by cases h
theorem z68 {a b : zab} {va vb : Value} (ha : zaq μ a va) (hb : zaq μ b vb) (h : zfq a b = some true) : Instr.sameBits 10000 vb va = true := by
 rcases zh8 h with ⟨x, y, rfl, rfl, h⟩ | ⟨_, h⟩
 ·rw [zaq] at ha hb
  obtain ⟨cx, rfl, hx⟩ := ha
  obtain ⟨cy, rfl, hy⟩ := hb
  obtain ⟨g1, g2⟩ := zr9 (n := 9999) hx hy h
  grind [Instr.sameBits]
 grind [zse]
theorem zul {k v : zab} {kv vv : Value} (hk : zaq μ k kv) (hv : zaq μ v vv) {F : List MapEntry -> Nat -> Sem (Option (Nat × Value))} (hF0 : ∀ i, (F [] i).run P w = .ok none w)
  (hF1 : ∀ (p : zab) (e : MapEntry) (es : List MapEntry) (i : Nat) (q : Bool), zaq μ p e.key -> zfq k p = some q -> (F (e :: es) i).run P w = if q then .ok (some (i, e.val)) w else (F es (i + 1)).run P w) {l : List (zab × zab)} {es : List MapEntry} (hl : zfd (z8e μ) l es) :
  ∀ {i : Nat} {l' : List (zab × zab)}, ze7 k v l = some l' →
   (∃ (j : Nat) (e0 : MapEntry), (F es i).run P w = .ok (some (i + j, e0.val)) w /\ es[j]? = some e0 /\ Instr.sameBits 10000 e0.key kv = true /\ zfd (z8e μ) l' (es.set j { e0 with key := kv, val := vv })) ∨
   ((F es i).run P w = .ok none w /\ ∀ born, zfd (z8e μ) l' (es ++ [⟨kv, vv, born⟩])) := by
 induction hl with
 | nil => intro i l' h; rw [ze7] at h; cases h; exact .inr ⟨hF0 i, fun born => .cons ⟨hk, hv⟩ .nil⟩
 | @cons p e l es hpe hrest ih =>
  intro i l' h; rw [ze7, zac] at h; obtain ⟨q, hq, h⟩ := h
  have h1 := hF1 p.1 e es i q hpe.1 hq
  cases q with
  | true =>
   rw [cond_true] at h
   cases h; refine .inl ⟨0, e, by grind, by simp, z68 hk hpe.1 hq, ?_⟩
   exact .cons ⟨hk, hv⟩ hrest
  | false =>
   rw [cond_false, zac] at h; obtain ⟨r, hr, h⟩ := h
   cases h; simp only [ybq, if_false] at h1; rcases ih (i := i + 1) hr with ⟨j, e0, h2, h3, h4, h5⟩ | ⟨h2, h3⟩
   ·refine .inl ⟨j + 1, e0, ?_, by simp_all, h4, ?_⟩
    ·rw [h1, h2, show i + 1 + j = i + (j + 1) by omega]
    ·exact .cons hpe h5
   ·exact .inr ⟨by simp_all, fun born => .cons hpe (h3 born)⟩
theorem zzak (hT : zdh P C) {t : Nat} {ty : ATy} (hty : C.tys.get t = some ty) (hkt : zmm C ty = true) {k v : zab} {kv vv : Value} (hfit : zg0 C ty k = true) (hk : zaq μ k kv) (hv : zaq μ v vv) {l l' : List (zab × zab)} {es : List MapEntry} (hl : zfd (z8e μ) l es) (h : ze7 k v l = some l') :
  (∃ (j : Nat) (e0 : MapEntry), (Instr.findKey t kv es).run P w = .ok (some (j, e0.val)) w /\ es[j]? = some e0 /\ Instr.sameBits 10000 e0.key kv = true /\ zfd (z8e μ) l' (es.set j { e0 with key := kv, val := vv })) ∨
   ((Instr.findKey t kv es).run P w = .ok none w /\ ∀ born, zfd (z8e μ) l' (es ++ [⟨kv, vv, born⟩])) := by
 have hF := hT.facts hty
 rcases zli hkt with hkd | ⟨fs, hkd, hfs, hok, hfl⟩
 ·obtain ⟨D, hD⟩ := hF.und
  have hfits := zpb hF hD hkd (zkc hkd hfit)
  have hfk : ∀ (q : Option (Nat × Value)), Instr.findNow D kv es 0 = some q -> (Instr.findKey t kv es).run P w = .ok q w := by
   simp_all [Instr.findKey, zbd]
  have back : ∀ (q : Option (Nat × Value)), ((fun es i => (match Instr.findNow D kv es i with | some r => pure r | none => stuck "" : Sem (Option (Nat × Value)))) es 0).run P w = .ok q w -> Instr.findNow D kv es 0 = some q := by
   intro q hq; simp only [] at hq
   cases hn : Instr.findNow D kv es 0 with
   | none => simp_all
   | some r => rw [hn] at hq; simp only [yae] at hq; injection hq with h1 _; rw [h1]
  have hF1 : ∀ (p : zab) (e : MapEntry) (es : List MapEntry) (i : Nat) (q : Bool), zaq μ p e.key -> zfq k p = some q -> ((fun es i => (match Instr.findNow D kv es i with | some r => pure r | none => stuck "" : Sem (Option (Nat × Value)))) (e :: es) i).run P w = if q then .ok (some (i, e.val)) w else ((fun es i => (match Instr.findNow D kv es i with | some r => pure r | none => stuck "" : Sem (Option (Nat × Value)))) es (i + 1)).run P w := by
   intro p e es i q hp hq; have h1 := zun hfits hk hp (hfits.eq1 hq)
   simp only [Instr.findNow, h1]
   cases q <;> rfl
  rcases zul (P := P) (w := w) (F := fun es i => match Instr.findNow D kv es i with | some r => pure r | none => stuck "") hk hv (fun i => rfl) hF1 hl (i := 0) h with ⟨j, e0, g1, g2, g3, g4⟩ | ⟨g1, g2⟩
  all_goals grind
 ·obtain ⟨x, rfl, hx⟩ := zjb hkd hfs hfit
  obtain ⟨g, hg, rfl⟩ := zfi hF hfs
  rw [zmp hg]; have hF1 : ∀ (p : zab) (e : MapEntry) (es : List MapEntry) (i : Nat) (q : Bool), zaq μ p e.key -> zfq (.agg x) p = some q -> (Instr.findAsking t kv (e :: es) i).run P w = if q then .ok (some (i, e.val)) w else (Instr.findAsking t kv es (i + 1)).run P w := by
   intro p e es i q hp hq; have h1 := zsb (P := P) (w := w) hT hty hfs hok hfl hx hk hp hq
   simp only [Instr.findAsking, yad, h1, yac]
   cases q <;> rfl
  rcases zul (P := P) (w := w) (F := fun es i => Instr.findAsking t kv es i) hk hv (fun i => rfl) hF1 hl (i := 0) h with ⟨j, e0, g1, g2, g3, g4⟩ | ⟨g1, g2⟩
  all_goals grind
theorem zhp {r : Nat} {o o' : Obj} (h : w.heap[r]? = some o) (hc : ∀ a b c, o ≠ .cells a b c) : (setObj r o').run P w = .ok () (World.setBlk w r o') := by
 simp only [setObj, Sem.run, h]; rfl
theorem zzt (hT : zdh P C) (hbase : B <= C.base) (hH : zbp B N μ H w) (hE : zil μ e ρ) {t : Nat} {m k x : Operand} (h : zlk t m k x C e H = .val v H') :
  ∃ w', (Instr.mapUpdate t (ρ m) (ρ k) (ρ x)).run P w = .ok () w' /\ zbp B N μ H' w' /\ Below N w w' /\ v = zbj := by
 have h := zep h
 simp only [zac, zae, zl7, ycp] at h; obtain ⟨ty, hty, ke, hke, kty, hkty, hkd, mv, hm, b, rfl, hbb, l, hl, kv, hk, hfit, xv, hx, l', hl', h⟩ := h
 cases h; have hKF := hT.facts hkty
 have hmv := hE _ _ hm
 rw [zaq] at hmv; obtain ⟨i, hi, hmv⟩ := hmv
 obtain ⟨es, clock, lp, h1, hperm, h2⟩ := hH.mapAt hl hi
 obtain ⟨lp', hlp', hperm'⟩ := zy2 hperm hl'
 have hb : B <= b := by
  grind [zdk]
 have hown := hH.own b i hb hi
 have hu := z5r (hT.facts hty) hke
 have hck := zp6 (P := P) (w := w) (empty := false) (d := 9998) (kv := ρ k) hT hkty hkd hfit (hE _ _ hk)
 rcases zzak (P := P) (w := w) hT hkty hkd hfit (hE _ _ hk) (hE _ _ hx) h2 hlp' with ⟨j, e0, h3, h4, h5, h6⟩ | ⟨h3, h4⟩
 ·have h4' : es[j]? = some e0 := by simp_all
  have hj : j < es.size := (ybe.1 h4').1
  refine ⟨World.setBlk w i.b (.map (es.modify j fun e => { e with key := ρ k, val := ρ x }) clock), ?_, hH.upd (zkm hl) hi hb ⟨_, clock, lp', rfl, hperm', ?_⟩, zc9 hown.1, rfl⟩
  ·simp_all [Instr.mapUpdate, zbd, zjj, Instr.keyThatStays, zhp]
  ·have : (es.modify j fun e => { e with key := ρ k, val := ρ x }).toList = es.toList.set j { e0 with key := ρ k, val := ρ x } := by
    apply List.ext_getElem?
    grind
   rw [this]; exact h6
 ·refine ⟨World.setBlk w i.b (.map (es.push { key := ρ k, val := ρ x, born := clock }) (clock + 1)), ?_, hH.upd (zkm hl) hi hb ⟨_, clock + 1, lp', rfl, hperm', ?_⟩, zc9 hown.1, rfl⟩
  ·simp_all [Instr.mapUpdate, zbd, zjj, zhp]
  ·rw [Array.toList_push]; exact h4 clock
theorem zl1 (hT : zdh P C) (hbase : B <= C.base) (hH : zbp B N μ H w) (hE : zil μ e ρ) {t : Nat} {m k x : Operand} (h : zlk t m k x C e H = .val v H') :
  z3s P B N μ w ρ ⟨dst, .mapUpdate t m k x, type, pos, after, guard⟩ v H' /\ z3s P B N μ w ρ ⟨dst, .insert t m k x, type, pos, after, guard⟩ v H' := by
 obtain ⟨w', h1, h2, h3, rfl⟩ := zzt (P := P) hT hbase hH hE h
 constructor
 all_goals
  refine ⟨undef, w', μ, .inr ⟨?_, rfl⟩, μ.le_refl, h2, h3, zyq⟩
  grind [execOp, Sem.run_bind, Result.andThen_ok, Sem.run_pure]
theorem zp7 (s : ByteArray) : zbw μ (zgs (zb8 s)) (s.data.map fun b => Value.int .u8 b.toNat).toList := by
 grind [zbw.mk, zgs, zb8, zaq]
theorem zs2 (l : List Nat) : (zgs l).length = l.length := by simp [zgs]
theorem zbp.newLoose (hH : zbp B N μ H w) {l : List zab} {cs : Array Value} {lo : Lo} (hlen : l.length <= cs.size) (hl : ∀ (j : Nat) a, l[j]? = some a -> ∃ v, cs[j]? = some v /\ zaq μ a v) (elem : TypeId) (fr : Nat × Nat) (hfr : fr.2 <= fr.1 \/ cs.size <= fr.1) (hmod : ∀ t, lo = .ty t -> elem = t) :
  zbp B N (μ.ext H.next ⟨w.heap.size, false, lo.es, cs.size, false⟩) (za7 H l (some lo)) (w.alloc (.cells cs elem fr)) := by
 refine hH.newBlk rfl rfl ⟨cs, elem, fr, rfl, by grind [za1], .inr hfr, fun j v hv => ?_, rfl, rfl, rfl, hmod⟩
 rw [Tr.get_ofList] at hv; obtain ⟨u, hu, hr⟩ := hl j v hv
 exact ⟨by grind [za1], u, hu, hr.mono hH.ext_le.f _ _⟩
theorem zzn1 (need old : Nat) (elem : TypeId) (t : Nat) : need <= (Question.appendCap need old elem).cut t := by simp [Question.cut]
theorem znk (need old : Nat) (elem : TypeId) : ∃ c, need <= c /\ (choose (.appendCap need old elem)).run P w = .ok c w.drew := by
 simp_all [zzn1, Question.forced]
theorem zhq : Below N w w.drew := (Below.refl N w).drew
theorem zqd (hH : zbp B N μ H w) {el : Nat} (s : ByteArray) : ∃ w' cap, (Conv.stringToBytes el s).run P w = .ok (.slice (some ⟨w.heap.size, 0, none⟩) s.size cap) w' /\ s.size <= cap ∧
  zbp B N (μ.ext H.next ⟨w.heap.size, false, 1, cap, false⟩) (za7 H (zgs (zb8 s)) (some (.ty el))) w' /\ Below N w w' := by
 obtain ⟨cap, hcap, hc⟩ := znk (P := P) (w := w) s.size 0 el
 let cs : Array Value := (s.data.map fun b => Value.int .u8 b.toNat) ++ Array.replicate (cap - s.size) (.int .u8 0)
 have hsz : cs.size = cap := by simp [cs]; omega
 have hdat : (s.data.map fun b => Value.int .u8 b.toNat).size = s.size := by simp
 have hpush : ∀ X : Obj, (w.drew.heap.push X)[w.heap.size]? = some X := fun X => by show (w.heap.push X)[w.heap.size]? = _; simp
 refine ⟨w.drew.alloc (.cells cs el (cap, cap + 1)), cap, ?_, hcap, ?_, (zhq).trans (zcn (by simpa using hH.size) _)⟩
 ·unfold Conv.stringToBytes
  have hfz : (w.drew.alloc (.cells cs el)).freeze ⟨w.heap.size, cap, none⟩ 1 = w.drew.alloc (.cells cs el (cap, cap + 1)) := by
   unfold World.freeze; rw [yaa (by simp)]
   unfold World.alloc; congr 1
   grind
  have hshape : (w.drew.alloc (.cells cs el)).shape? w.heap.size = some (el, cs.size) := by
   grind [World.shape?, World.alloc]
  simp only [yad, hc, yac, ze2, markStringish, run_shape]; have h2 : (w.drew.alloc (.cells cs el)).shape? w.drew.heap.size = some (el, cap) := by simp_all
  simp only [show ((s.data.map fun b => Value.int .u8 (b.toNat : Int)) ++ Array.replicate (cap - s.size) (Value.int .u8 0)) = cs from rfl, h2, run_freeze, yac, yae]
  simp_all
 ·have := (hH.drew).newLoose (l := zgs (zb8 s)) (cs := cs) (lo := .ty el) (by grind [zs2, ze4]) (fun j a ha => ?_) el (cap, cap + 1) (.inr (by omega)) (fun t e => by grind)
  ·rw [hsz] at this; exact this
  ·obtain ⟨u, hu, hr⟩ := (zp7 (μ := μ) s).get ha
   grind
theorem z2w (hT : zdh P C) (hH : zbp B N μ H w) (hE : zil μ e ρ) {s d : Nat} {x : Operand} (h : zgq s d x C e H = .val v H') : z3s P B N μ w ρ ⟨dst, .convert s d x, type, pos, after, guard⟩ v H' := by
 unfold zgq at h; split at h
 ·rename_i u hu
  injection h with h1 h2
  subst h1 h2
  exact (z45 hT hH hE hu).hv hH
 ·have h := zep h
  simp only [zac, zae, zf2, zd1, za1] at h; obtain ⟨sy, hsy, ty, hty, el, hel, et, het, k, hk, rfl, a, ha, l, rfl, h⟩ := h
  cases h; have hv := hE _ _ ha
  rw [zaq] at hv; obtain ⟨str, hxv, rfl⟩ := hv
  obtain ⟨w', cap, h1, h2, h3, h4⟩ := zqd (P := P) (el := el) hH str
  obtain ⟨su, hsu⟩ := (hT.facts hsy).und
  refine ⟨.slice (some ⟨w.heap.size, 0, none⟩) str.size cap, w', _, .inl ?_, hH.ext_le, h3, h4, ?_⟩
  ·have h5 : (convert s d (ρ x)).run P w = .ok (.slice (some ⟨w.heap.size, 0, none⟩) str.size cap) w' := by
    rw [hxv]; simp only [convert, yad, zbd hsu, zbd (zdb (hT.facts hty) hel), yac]
    cases su <;> simp only [zbd (zxr (hT.facts het) hk), yac, h1]
   grind [execOp, Sem.run_bind, Result.andThen_ok, Sem.run_pure]
  simp_all [zaq, ze4, Mu.ext_same]
end
end Go.Am
