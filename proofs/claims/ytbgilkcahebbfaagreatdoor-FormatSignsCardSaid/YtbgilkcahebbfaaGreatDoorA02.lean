/- The operations that change no memory: what the abstract machine computes, the model computes. -/
import Derived.Below
import Derived.Laws.BytesString
import Derived.Lib.Strings
import Derived.Test.YtbgilkcahebbfaaGreatDoorA01
set_option linter.all false
noncomputable section
namespace Go.Am
open Go
def zgx (μ : Mu) (e : Env) (ρ : Operand -> Value) : Prop := ∀ x v, ev x e = some v -> zal μ v (ρ x)
theorem zgx.many {μ : Mu} {e : Env} {ρ : Operand -> Value} (h : zgx μ e ρ) : ∀ {l : List Operand} {r : List zab}, evs l e = some r -> za9 μ r (l.map ρ) := by
 intro l; induction l with
 | nil => intro r k; unfold evs at k; rw [zgk] at k; cases k; exact .nil
 | cons x l ih =>
  intro r k; unfold evs at k; rw [zcb, zac] at k; obtain ⟨a, ha, k⟩ := k
  rw [zac] at k; obtain ⟨b, hb, k⟩ := k
  cases k
  exact .cons (h _ _ ha) (ih hb)
theorem zgx.parts {μ : Mu} {e : Env} {ρ : Operand -> Value} (h : zgx μ e ρ) : ∀ {l : List (Nat × Operand)} {r : List (Nat × zab)}, evp l e = some r →
  zd9 (fun p q => p.1 = q.1 /\ zal μ p.2 q.2) r (l.map fun x => (x.1, ρ x.2)) := by
 intro l; induction l with
 | nil => intro r k; unfold evp at k; rw [zgk] at k; cases k; exact .nil
 | cons x l ih =>
  intro r k; unfold evp at k; rw [zcb, zac] at k; obtain ⟨a, ha, k⟩ := k
  rw [zac] at ha; obtain ⟨a', ha, ha'⟩ := ha
  cases ha'
  rw [zac] at k; obtain ⟨b, hb, k⟩ := k
  cases k
  exact .cons ⟨rfl, h _ _ ha⟩ (ih hb)
def z9u (μ : Mu) : Option zab -> Option Value -> Prop
 | none, none => True
 | some a, some v => zal μ a v
 | _, _ => False
theorem zgx.opt {μ : Mu} {e : Env} {ρ : Operand -> Value} (h : zgx μ e ρ) {x : Option Operand} {r : Option zab} (k : evo x e = some r) : z9u μ r (x.map ρ) := by
 cases x with
 | none => cases k; trivial
 | some x => unfold evo at k; simp only [] at k; rw [zac] at k; obtain ⟨a, ha, k⟩ := k; cases k; exact h _ _ ha
theorem zkh (b off n : Nat) : Addr.add ⟨b, off, none⟩ n = ⟨b, off + n, none⟩ := by
 unfold Addr.add; split
 ·rename_i h; subst h; rfl
 ·rfl
section
variable {P : Program} {C : Ctx} {B N : Nat} {μ : Mu} {H : zaf} {w : World}
theorem zcs {b : Nat} {p : Tr zab × Nat × Option Lo} (h : zaq H b = some p) : H.t.get b = some (.cells p.1 p.2.1 p.2.2) := by
 unfold zaq at h; rw [zac] at h; obtain ⟨x, hx, h⟩ := h
 cases x <;> simp [zam.asCells] at h
 subst h; exact hx
theorem za3.cellAt (hH : za3 B N μ H w) {b : Nat} {p : Tr zab × Nat × Option Lo} (h : zaq H b = some p) {i : BI} (hi : μ b = some i) {j : Nat} {v : zab} (hv : p.1.get j = some v) :
  ∃ v', w.cell? ⟨i.b, j, none⟩ = some v' /\ zal μ v v' := by
 obtain ⟨o, h2, h3⟩ := hH.blk _ _ _ (zcs h) hi
 obtain ⟨cs, elem, fr, rfl, _, _, h4, _⟩ := h3
 obtain ⟨_, v', h6, h7⟩ := h4 j v hv
 exact ⟨v', by simp [World.cell?, h2, h6], h7⟩
theorem za3.manyAt (hH : za3 B N μ H w) {b : Nat} {p : Tr zab × Nat × Option Lo} (h : zaq H b = some p) {i : BI} (hi : μ b = some i) {n off : Nat} {l : List zab} (hl : p.1.many n off = some l) :
  ∃ vs : List Value, vs.length = n /\ za9 μ l vs /\ (loadCells ⟨i.b, off, none⟩ n).run P w = .ok vs.toArray w /\ ∀ j, j < n -> w.cell? ⟨i.b, off + j, none⟩ = vs[j]? := by
 obtain ⟨h1, h2⟩ := Tr.many_some _ _ _ _ hl
 have key : ∀ j, j < n -> ∃ v', w.cell? ⟨i.b, off + j, none⟩ = some v' /\ ∃ a, l[j]? = some a /\ zal μ a v' := by
  intro j hj; have h3 := h2 j hj
  cases hlj : l[j]? with
  | none => rw [List.getElem?_eq_none_iff] at hlj; omega
  | some a =>
   rw [hlj] at h3; obtain ⟨v', h4, h5⟩ := hH.cellAt h hi h3
   exact ⟨v', h4, a, rfl, h5⟩
 let f : Nat -> Value := fun j => (w.cell? ⟨i.b, off + j, none⟩).getD undef
 have hf : ∀ j, j < n -> w.cell? ⟨i.b, off + j, none⟩ = some (f j) := by
  intro j hj; obtain ⟨v', h3, _⟩ := key j hj
  simp [f, h3]
 refine ⟨(List.range n).map f, by simp, ?_, ?_, ?_⟩
 ·refine za9.mk (by simp [h1]) fun j a v ha hv => ?_
  have hj : j < n := by rw [<- h1]; exact (yad.1 ha).1
  obtain ⟨v', h3, a', h4, h5⟩ := key j hj
  rw [ha] at h4; cases h4; rw [yav, List.getElem?_range hj] at hv; have h6 := hf j hj
  rw [h3] at h6; cases h6; simp at hv; rw [<- hv]; exact h5
 ·exact run_loadCells w _ n f fun j hj => by rw [zkh]; exact hf j hj
 ·intro j hj; rw [hf j hj, yav, List.getElem?_range hj]; rfl
theorem z05 (hH : za3 B N μ H w) {t : Nat} {ty : ATy} (hty : zcv P t ty) {b : Nat} {p : Tr zab × Nat × Option Lo} (h : zaq H b = some p) {i : BI} (hi : μ b = some i) {off : Nat} {v : zab}
  (hv : zmw ty p.1 off = some v) : ∃ v', (loadVar t ⟨i.b, off, none⟩).run P w = .ok v' w /\ zal μ v v' := by
 unfold zmw at hv; unfold loadVar; rw [Sem.run_bind, hty.isAgg, Result.andThen_ok]
 cases ha : ty.desc.isAgg with
 | true =>
  rw [ha, cond_true, zac] at hv; obtain ⟨l, hl, hv⟩ := hv
  cases hv; obtain ⟨vs, _, h2, h3, _⟩ := hH.manyAt (P := P) h hi hl
  refine ⟨.agg vs.toArray, ?_, by rw [zal]; exact ⟨_, rfl, h2⟩⟩
  rw [if_pos rfl, Sem.run_bind, hty.size, Result.andThen_ok, Sem.run_bind, h3]; rfl
 | false =>
  rw [ha, cond_false] at hv; obtain ⟨v', h1, h2⟩ := hH.cellAt h hi hv
  refine ⟨v', ?_, h2⟩
  rw [if_neg (by simp), run_load, h1]
theorem zlf (hT : zcm P C) {t : Nat} {l : List zab} {cs : Array Value} (hl : za9 μ l cs.toList) {off : Nat} {v : zab} (hv : zkt C t l off = some v) :
  ∃ v', (part t cs off).run P w = .ok v' w /\ zal μ v v' := by
 unfold zkt at hv; rw [zac] at hv; obtain ⟨ty, hty, hv⟩ := hv
 have hF := hT.facts hty
 unfold part; rw [Sem.run_bind, hF.isAgg, Result.andThen_ok]
 cases ha : ty.desc.isAgg with
 | true =>
  rw [ha, cond_true] at hv
  cases hv; refine ⟨.agg (cs.extract off (off + ty.size)), ?_, ?_⟩
  ·rw [if_pos rfl, Sem.run_bind, hF.size]; rfl
  ·rw [zal]; refine ⟨_, rfl, ?_⟩
   rw [zfi, zf5, Array.toList_extract, List.extract_eq_take_drop, Nat.add_sub_cancel_left]; exact (hl.drop _).take _
 | false =>
  rw [ha, cond_false, zbe] at hv; obtain ⟨v', h1, h2⟩ := hl.get hv
  refine ⟨v', ?_, h2⟩
  rw [if_neg (by simp)]
  have : cs[off]? = some v' := by simpa using h1
  rw [this]; rfl
def LOk (P : Program) (μ : Mu) (w : World) (ρ : Operand -> Value) (o : Oper) (v : zab) : Prop := ∃ v', (execOp ρ o).run P w = .ok (.value v') w /\ zal μ v v'
variable {e : Env} {ρ : Operand -> Value} {dst : Option Tmp} {type : TypeId} {pos : String} {after : Array Edge} {guard : Option (Nat × Bool)} {v : zab}
theorem z09 (hE : zgx μ e ρ) {x : Operand} (h : zpx x C e H = some v) : LOk P μ w ρ ⟨dst, .move x, type, pos, after, guard⟩ v := ⟨ρ x, rfl, hE x v h⟩
theorem zsf (hE : zgx μ e ρ) {x : Operand} (h : zpx x C e H = some v) : LOk P μ w ρ ⟨dst, .assign x, type, pos, after, guard⟩ v := ⟨ρ x, rfl, hE x v h⟩
theorem z08 (hE : zgx μ e ρ) {c a b : Operand} (h : z7g c a b C e H = some v) : LOk P μ w ρ ⟨dst, .pick c a b, type, pos, after, guard⟩ v := by
 unfold z7g at h; rw [zac] at h; obtain ⟨cv, hc, h⟩ := h
 rw [zac] at h; obtain ⟨cb, hb, h⟩ := h
 have h1 := hE _ _ hc
 rw [zdd.1 hb, zal] at h1; unfold LOk execOp; simp only [h1, asBool]
 cases cb with
 | true => exact ⟨ρ a, rfl, hE _ _ h⟩
 | false => exact ⟨ρ b, rfl, hE _ _ h⟩
theorem z1a (hT : zcm P C) (hH : za3 B N μ H w) (hE : zgx μ e ρ) {t : Nat} {a : Operand} (h : zpy t a C e H = some v) : LOk P μ w ρ ⟨dst, .load t a, type, pos, after, guard⟩ v := by
 unfold zpy at h; simp only [zac, zff] at h; obtain ⟨av, ha, p, rfl, ty, hty, c, hc, h⟩ := h
 have h1 := hE _ _ ha
 rw [zal] at h1; obtain ⟨i, hi, hv⟩ := h1
 obtain ⟨v', h2, h3⟩ := z05 (P := P) hH (hT.facts hty) hc hi h
 refine ⟨v', ?_, h3⟩
 simp only [execOp, Instr.loadAt, hv, Instr.sureAddr, Sem.run_bind, Sem.run_pure, Result.andThen_ok, h2]
theorem z7h (hE : zgx μ e ρ) {x : Operand} (h : zzbt x C e H = some v) : LOk P μ w ρ ⟨dst, .nilCheck x, type, pos, after, guard⟩ v := by
 unfold zzbt at h; rw [zac] at h; obtain ⟨a, ha, h⟩ := h
 rw [zae] at h; obtain ⟨hb, h⟩ := h
 cases h; have h1 := hE _ _ ha
 refine ⟨ρ x, ?_, h1⟩
 cases v <;> simp [zab.tag, Nat.beq] at hb
 ·rw [zal] at h1
  obtain ⟨i, _, hv⟩ := h1
  simp only [execOp, hv]; rfl
 ·rename_i fn a b
  rw [zal] at h1; obtain ⟨fn', a', c', hv, hf, _⟩ := h1
  cases fn with
  | func f => cases hf; simp only [execOp, hv]; rfl
  | yld l => obtain ⟨i, _, rfl⟩ := hf; simp only [execOp, hv]; rfl
theorem z1b (hE : zgx μ e ρ) {fn : Fn} {a b : Array Operand} (h : (zi5 fn a b).f C e H = some v) : LOk P μ w ρ ⟨dst, .makeFunc fn a b, type, pos, after, guard⟩ v := by
 unfold zi5 at h; split at h
 ·rename_i f
  simp only [z7p, zac] at h; obtain ⟨as, ha, bs, hb, h⟩ := h
  cases h; refine ⟨.func (.func f) (a.map ρ) (b.map ρ), rfl, ?_⟩
  rw [zal]; exact ⟨_, _, _, rfl, rfl, by simpa using hE.many ha, by simpa using hE.many hb⟩
 ·cases h
theorem zwe (hT : zcm P C) (hE : zgx μ e ρ) {t : Nat} {x : Operand} (h : zns t x C e H = some v) : LOk P μ w ρ ⟨dst, .makeInterface t x, type, pos, after, guard⟩ v := by
 unfold zns at h; simp only [zac, zae] at h; obtain ⟨ty, hty, hb, a, ha, h⟩ := h
 cases h; obtain ⟨d, hd, hn⟩ := zl2 (hT.facts hty) hb
 refine ⟨.iface t (ρ x), ?_, by rw [zal]; exact ⟨_, rfl, hE _ _ ha⟩⟩
 simp only [execOp, Instr.makeInterface, Sem.run_bind, za0 hd, Result.andThen_ok]
 cases d <;> first | rfl | exact absurd rfl (hn _)
theorem zpz (hE : zgx μ e ρ) {t : Operand} {i : Nat} (h : zeu t i C e H = some v) : LOk P μ w ρ ⟨dst, .extract t i, type, pos, after, guard⟩ v := by
 unfold zeu at h; simp only [zac, z33, zbe] at h; obtain ⟨a, ha, l, rfl, h⟩ := h
 have h1 := hE _ _ ha
 rw [zal] at h1; obtain ⟨cs, hv, hl⟩ := h1
 obtain ⟨v', h2, h3⟩ := hl.get h
 refine ⟨v', ?_, h3⟩
 have h4 : cs[i]? = some v' := by simpa using h2
 simp only [execOp, hv, Instr.extract, h4]; rfl
theorem zwf (hT : zcm P C) (hE : zgx μ e ρ) {t : Nat} {x : Operand} {f : Nat} (h : znu t x f C e H = some v) : LOk P μ w ρ ⟨dst, .field t x f, type, pos, after, guard⟩ v := by
 unfold znu at h; simp only [zac, zgc, zbe] at h; obtain ⟨ty, hty, fs, hfs, fd, hfd, a, ha, l, rfl, h⟩ := h
 obtain ⟨g, hg, rfl⟩ := zed (hT.facts hty) hfs
 have h1 := hE _ _ ha
 rw [zal] at h1; obtain ⟨cs, hv, hl⟩ := h1
 rw [yav] at hfd
 cases hgf : g.toList[f]? with
 | none => rw [hgf] at hfd; cases hfd
 | some fld =>
  rw [hgf] at hfd; simp at hfd; subst hfd; obtain ⟨v', h2, h3⟩ := zlf (w := w) hT hl h
  refine ⟨v', ?_, h3⟩
  have h4 : g[f]? = some fld := by simpa using hgf
  simp only [execOp, hv, Instr.field, Sem.run_bind, za0 hg, Result.andThen_ok, h4, asAgg, Sem.run_pure, h2]
theorem zlr (hT : zcm P C) (hE : zgx μ e ρ) {s : Nat} {x : Operand} {f : Nat} (h : zc3 s x f C e H = some v) : LOk P μ w ρ ⟨dst, .fieldAddr s x f, type, pos, after, guard⟩ v := by
 unfold zc3 at h; simp only [zac, zff, zbe, zae] at h; obtain ⟨ty, hty, fs, hfs, fd, hfd, hz, a, ha, p, rfl, h⟩ := h
 cases h; obtain ⟨g, hg, rfl⟩ := zed (hT.facts hty) hfs
 have h1 := hE _ _ ha
 rw [zal] at h1; obtain ⟨i, hi, hv⟩ := h1
 rw [yav] at hfd
 cases hgf : g.toList[f]? with
 | none => rw [hgf] at hfd; cases hfd
 | some fld =>
  rw [hgf] at hfd; simp at hfd; subst hfd; refine ⟨.pointer (some ⟨i.b, p.2 + fld.offset, none⟩), ?_, by rw [zal]; exact ⟨i, hi, rfl⟩⟩
  have h4 : g[f]? = some fld := by simpa using hgf
  have h5 : P.cellsOf fld.type ≠ 0 := by
   have h6 : Nat.beq (P.cellsOf fld.type) 0 = false := by simpa using hz
   exact beqf.1 h6
  have h6 : (sizeOf fld.type).run P w = .ok (P.cellsOf fld.type) w := by
   unfold Program.cellsOf at h5 ⊢
   cases hinf : P.info? fld.type with
   | none => rw [hinf] at h5; exact absurd rfl h5
   | some inf => simp [sizeOf, zh1 hinf]
  simp only [execOp, hv, Instr.fieldAt, Sem.run_bind, za0 hg, Result.andThen_ok, h4, Instr.sureAddr, Sem.run_pure, fieldPlace, h6, Sem.run_ite, if_neg h5, zkh]
end
end Go.Am
namespace Go.Am
open Go
section
variable {P : Program} {C : Ctx} {B N : Nat} {μ : Mu} {H : zaf} {w : World}
variable {e : Env} {ρ : Operand -> Value} {dst : Option Tmp} {type : TypeId} {pos : String} {after : Array Edge} {guard : Option (Nat × Bool)} {v : zab}
theorem ze3 {k : IntKind} {n : Nat} (h : n < kHi k) : k.wrap (n : Int) = n := by
 rw [<- zcx]; show (bif Nat.blt n (kHi k) then Int.ofNat n else _) = _
 rw [zak, if_pos (zcz.2 h)]; rfl
theorem zy1 (k : IntKind) : ∃ m, kHi k = 2 ^ m /\ m <= k.bits := by
 cases k
 ·exact ⟨7, rfl, by decide⟩
 ·exact ⟨15, rfl, by decide⟩
 ·exact ⟨31, rfl, by decide⟩
 ·exact ⟨63, rfl, by decide⟩
 ·exact ⟨8, rfl, by decide⟩
 ·exact ⟨16, rfl, by decide⟩
 ·exact ⟨32, rfl, by decide⟩
 ·exact ⟨64, rfl, by decide⟩
theorem zf7 {k : IntKind} {n : Nat} (h : n < kHi k) : (BitVec.ofInt k.bits (n : Int)).toNat = n := by
 obtain ⟨m, hm, hle⟩ := zy1 k
 rw [BitVec.toNat_ofInt]; have : n < 2 ^ k.bits := Nat.lt_of_lt_of_le (hm ▸ h) (Nat.pow_le_pow_right (by omega) hle)
 rw [<- Int.natCast_emod, Int.toNat_natCast, Nat.mod_eq_of_lt this]
theorem zjr {f : Nat -> Nat -> Nat} {k : IntKind} {a b : Int} {v : zab} (h : zfc f k a b = some v) : ∃ x y : Nat, a = x /\ b = y /\ x < kHi k /\ y < kHi k /\ v = .int k (f x y : Nat) := by
 unfold zfc at h; simp only [zac, zht, zae, yac, zcz] at h; obtain ⟨x, rfl, y, rfl, ⟨h1, h2⟩, h⟩ := h
 cases h; exact ⟨x, y, rfl, rfl, h1, h2, rfl⟩
theorem z9g {op : BinOp} {k : IntKind} {a b : Int} (h : (z9h op).f k a b = some v) : op ≠ .shl /\ op ≠ .shr /\ ∀ t, ∃ v', (binOp op t (.int k a) (.int k b)).run P w = .ok v' w /\ zal μ v v' := by
 cases op <;> simp only [z9h] at h
 case add => cases h; exact ⟨by simp, by simp, fun t => ⟨.int k (k.wrap (a + b)), by simp [binOp, Op.intArith], by rw [zal, zcx]⟩⟩
 case sub => cases h; exact ⟨by simp, by simp, fun t => ⟨.int k (k.wrap (a - b)), by simp [binOp, Op.intArith], by rw [zal, zcx]⟩⟩
 case mul => cases h; exact ⟨by simp, by simp, fun t => ⟨.int k (k.wrap (a * b)), by simp [binOp, Op.intArith], by rw [zal, zcx]⟩⟩
 case quo =>
  unfold zzb2 at h; simp only [zak, zhi] at h; split at h
  ·cases h
  ·rename_i hb; cases h
   refine ⟨by simp, by simp, fun t => ⟨.int k (k.wrap (a.tdiv b)), ?_, by rw [zal, zcx]⟩⟩
   simp [binOp, Op.intDiv, hb]
 case rem =>
  unfold zzb1 at h; simp only [zak, zhi] at h; split at h
  ·cases h
  ·rename_i hb; cases h
   refine ⟨by simp, by simp, fun t => ⟨.int k (a.tmod b), ?_, by rw [zal]⟩⟩
   simp [binOp, Op.intDiv, hb]
 case and =>
  unfold zzb3 at h; split at h
  ·obtain ⟨x, y, rfl, rfl, hx, hy, rfl⟩ := zjr h
   refine ⟨by simp, by simp, fun t => ⟨.int k ((x &&& y : Nat) : Int), ?_, by rw [zal]; rfl⟩⟩
   have h1 : x &&& y < kHi k := Nat.lt_of_le_of_lt Nat.and_le_left hx
   simp only [binOp, Op.intBits, BitVec.toNat_and, zf7 hx, zf7 hy, ze3 h1]; simp
  ·simp only [zac, zht, zae, zcz] at h
   obtain ⟨y, rfl, hy, h⟩ := h
   cases h; have e : (BitVec.ofInt k.bits a).toNat = Int.toNat (Int.emod a (.ofNat (kW k))) := by
    rw [BitVec.toNat_ofInt]
    cases k <;> rfl
   generalize Int.toNat (Int.emod a (.ofNat (kW k))) = x at e ⊢
   refine ⟨by simp, by simp, fun t => ⟨.int k ((x &&& y : Nat) : Int), ?_, by rw [zal]; rfl⟩⟩
   have h1 : x &&& y < kHi k := Nat.lt_of_le_of_lt Nat.and_le_right hy
   simp only [binOp, Op.intBits, BitVec.toNat_and, e, zf7 hy, ze3 h1]; simp
 case or =>
  obtain ⟨x, y, rfl, rfl, hx, hy, rfl⟩ := zjr h
  obtain ⟨m, hm, _⟩ := zy1 k
  refine ⟨by simp, by simp, fun t => ⟨.int k ((x ||| y : Nat) : Int), ?_, by rw [zal]; rfl⟩⟩
  have h1 : x ||| y < kHi k := by rw [hm]; exact Nat.or_lt_two_pow (hm ▸ hx) (hm ▸ hy)
  simp only [binOp, Op.intBits, BitVec.toNat_or, zf7 hx, zf7 hy, ze3 h1]; simp
 case xor =>
  obtain ⟨x, y, rfl, rfl, hx, hy, rfl⟩ := zjr h
  obtain ⟨m, hm, _⟩ := zy1 k
  refine ⟨by simp, by simp, fun t => ⟨.int k ((x ^^^ y : Nat) : Int), ?_, by rw [zal]; rfl⟩⟩
  have h1 : x ^^^ y < kHi k := by rw [hm]; exact Nat.xor_lt_two_pow (hm ▸ hx) (hm ▸ hy)
  simp only [binOp, Op.intBits, BitVec.toNat_xor, zf7 hx, zf7 hy, ze3 h1]; simp
 case eql => cases h; exact ⟨by simp, by simp, fun t => ⟨.bool (a == b), by simp [binOp, Op.intCmp], by rw [zal, zkd]⟩⟩
 case neq => cases h; exact ⟨by simp, by simp, fun t => ⟨.bool (a != b), by simp [binOp, Op.intCmp], by rw [zal, zkd]; rfl⟩⟩
 case lss => cases h; exact ⟨by simp, by simp, fun t => ⟨.bool (a < b), by simp [binOp, Op.intCmp], by rw [zal, zzed]⟩⟩
 case leq => cases h; exact ⟨by simp, by simp, fun t => ⟨.bool (a <= b), by simp [binOp, Op.intCmp], by rw [zal, zzee]⟩⟩
 case gtr => cases h; exact ⟨by simp, by simp, fun t => ⟨.bool (a > b), by simp [binOp, Op.intCmp], by rw [zal, zzed]⟩⟩
 case geq => cases h; exact ⟨by simp, by simp, fun t => ⟨.bool (a >= b), by simp [binOp, Op.intCmp], by rw [zal, zzee]⟩⟩
 all_goals cases h
theorem zdc (s : ByteArray) : (zbm s).length = s.size := by simp [zbm]
theorem zul (a b : ByteArray) : zbm (a ++ b) = zbm a ++ zbm b := by simp [zbm]
theorem z30 (s : ByteArray) (i : Nat) : (zbm s)[i]? = (s[i]?).map UInt8.toNat := by
 unfold zbm; rw [yav]; congr 1
 by_cases h : i < s.size
 ·rw [getElem?_pos s i h]
  simp [ByteArray.getElem_eq_getElem_data]
 ·rw [getElem?_neg s i h]
  simp; exact Nat.le_of_not_lt h
theorem zkg (s : ByteArray) (l h : Nat) : zbm (s.extract l h) = ((zbm s).take h).drop l := by
 unfold zbm; rw [ByteArray.data_extract, Array.toList_extract, List.extract_eq_take_drop, <- List.map_take, <- List.map_drop, List.drop_take]
theorem zw4 {a b : ByteArray} : (a.toList == b.toList) = (zhk (zbm a) (zbm b)) := by
 rw [Lib.toList_data, Lib.toList_data, Bool.eq_iff_iff, zdb]; constructor
 ·intro h; simp at h; unfold zbm; rw [h]
 ·intro h; rw [zjx h]; simp
theorem z28 (a : List UInt8) : ∀ b : List UInt8, Op.bytesLess a b = zyz (a.map UInt8.toNat) (b.map UInt8.toNat) := by
 induction a with
 | nil => intro b; cases b <;> rfl
 | cons x a ih =>
  intro b
  cases b with
  | nil => rfl
  | cons y b =>
   show _ = (bif Nat.blt x.toNat y.toNat then true else bif Nat.beq x.toNat y.toNat then zyz (a.map UInt8.toNat) (b.map UInt8.toNat) else false)
   rw [Op.bytesLess, ih, zak, zak]; by_cases h : x < y
   ·have : Nat.blt x.toNat y.toNat = true := zcz.2 (by exact UInt8.lt_iff_toNat_lt.1 h)
    rw [if_pos this]; simp [h]
   ·have h1 : ¬ Nat.blt x.toNat y.toNat = true := fun k => h (UInt8.lt_iff_toNat_lt.2 (zcz.1 k))
    rw [if_neg h1]; by_cases he : x = y
    ·subst he; rw [if_pos (Nat.beq_refl _)]; simp [h]
    ·have h2 : ¬ Nat.beq x.toNat y.toNat = true := fun k => he (UInt8.toNat_inj.1 (zck.1 k))
     rw [if_neg h2]; simp [h, he]
theorem z9d {op : BinOp} {a b : ByteArray} (h : (z9e op).f (zbm a) (zbm b) = some v) : op ≠ .shl /\ op ≠ .shr /\ ∀ t, ∃ v', (binOp op t (.string a) (.string b)).run P w = .ok v' w /\ zal μ v v' := by
 cases op <;> simp only [z9e] at h
 case add =>
  simp only [zxj, zae, zcz, zav, zbx, zdc] at h; obtain ⟨h1, h⟩ := h
  cases h; refine ⟨by simp, by simp, fun t => ⟨.string (a ++ b), ?_, by rw [zal]; exact ⟨_, rfl, zul a b⟩⟩⟩
  have h2 : ¬ (((a.size + b.size : Nat) : Int) > IntKind.i64.max) := by
   have : IntKind.i64.max = 9223372036854775807 := by decide
   rw [this]; omega
  simp only [binOp, Op.stringOp, if_neg h2]; rfl
 case eql => cases h; exact ⟨by simp, by simp, fun t => ⟨.bool (a.toList == b.toList), rfl, by rw [zal, zw4]⟩⟩
 case neq => cases h; exact ⟨by simp, by simp, fun t => ⟨.bool !(a.toList == b.toList), rfl, by rw [zal, zw4]⟩⟩
 case lss => cases h; exact ⟨by simp, by simp, fun t => ⟨.bool (Op.bytesLess a.toList b.toList), rfl, by rw [zal, Lib.toList_data, Lib.toList_data, z28]; rfl⟩⟩
 all_goals cases h
theorem zhz {op : BinOp} {t : TypeId} {x y : Operand} {a b : Value} (h1 : ¬ (a = .nilIface /\ b = .nilIface) \/ (zls x || zls y) = true) (h2 : ∀ l m, ¬ (a = .agg l /\ b = .agg m)) : (eqGuard op t x y a b).run P w = .ok () w := by
 unfold eqGuard
 cases op
 case eql | neq =>
  rw [if_neg (by simp)]
  split
  ·rcases h1 with h1 | h1
   ·exact absurd ⟨rfl, rfl⟩ h1
   ·cases x <;> cases y <;> simp [zls] at h1 ⊢
  ·exact absurd ⟨rfl, rfl⟩ (h2 _ _)
  ·rfl
 all_goals rfl
theorem zze {op : BinOp} {t : TypeId} {x y : Operand} {l m : Array Value} (h : P.eqGuardType P.depth t = false) : (eqGuard op t x y (.agg l) (.agg m)).run P w = .ok () w := by
 unfold eqGuard
 cases op
 case eql | neq => rw [if_neg (by simp)]; simp [h]
 all_goals rfl
theorem zhq {op : BinOp} {t yt : TypeId} {x y : Operand} {v' : Value} (h1 : (eqGuard op t x y (ρ x) (ρ y)).run P w = .ok () w) (h2 : (binOp op t (ρ x) (ρ y)).run P w = .ok v' w) :
  (execOp ρ ⟨dst, .binOp op t x y yt, type, pos, after, guard⟩).run P w = .ok (.value v') w := by
 simp only [execOp, Sem.run_bind, h1, Result.andThen_ok, h2, Sem.run_pure]
theorem zpd {k : IntKind} {b : Int} {n : Nat} (h : zpe k b = some n) : ¬ b < 0 /\ n = min b.toNat k.bits := by
 unfold zpe at h; simp only [zac, zht] at h; obtain ⟨m, rfl, h⟩ := h
 cases h; exact ⟨by omega, by simp⟩
theorem zqo {op : BinOp} {t yt : TypeId} {x y : Operand} {a b : zab} (hx : zal μ a (ρ x)) (hy : zal μ b (ρ y))
  (h : (op = .shl /\ zl7 z76 a b = some v) \/ (op = .shr /\ zl7 zzfz a b = some v)) : LOk P μ w ρ ⟨dst, .binOp op t x y yt, type, pos, after, guard⟩ v := by
 rcases h with ⟨rfl, h⟩ | ⟨rfl, h⟩
 all_goals
  unfold zl7 at h; simp only [zac, zcl, zne] at h; obtain ⟨p, rfl, n, ⟨k', rfl⟩, h⟩ := h
  rw [zal] at hx hy
 ·unfold z76 at h
  rw [zac] at h; obtain ⟨m, hm, h⟩ := h
  cases h; obtain ⟨h1, rfl⟩ := zpd hm
  refine ⟨.int p.1 (p.1.wrap (p.2 * 2 ^ (min n.toNat p.1.bits))), zhq (zhz (.inl (by rw [hx]; simp)) (by rw [hx]; simp)) ?_, by rw [zal, zcx]; simp⟩
  rw [hx, hy]; simp [binOp, Op.shift, h1]
 ·unfold zzfz at h
  rw [zac] at h; obtain ⟨m, hm, h⟩ := h
  cases h; obtain ⟨h1, rfl⟩ := zpd hm
  refine ⟨.int p.1 (p.2.fdiv (2 ^ (min n.toNat p.1.bits))), zhq (zhz (.inl (by rw [hx]; simp)) (by rw [hx]; simp)) ?_, by rw [zal]; simp⟩
  rw [hx, hy]; simp [binOp, Op.shift, h1]
theorem zhy {n m : Nat} {a b : zab} {r : Bool} (h : zwr n m a b = some r) : (a.tag = n /\ b.tag = n /\ r = true) \/ (a.tag = n /\ b.tag = m /\ r = false) \/ (a.tag = m /\ b.tag = n /\ r = false) := by
 unfold zwr at h; simp only [zak, zck] at h; split at h
 ·split at h
  ·cases h; rename_i h1 h2; exact .inl ⟨h1, h2, rfl⟩
  ·rw [zae, zck] at h; obtain ⟨h1, h⟩ := h; cases h; rename_i h2 _; exact .inr (.inl ⟨h2, h1, rfl⟩)
 ·rw [zae, yac, zck, zck] at h; obtain ⟨⟨h1, h2⟩, h⟩ := h; cases h; exact .inr (.inr ⟨h1, h2, rfl⟩)
theorem z8r {t : Nat} {ty : ATy} (hF : zcv P t ty) {a b : zab} {va vb : Value} (ha : zal μ a va) (hb : zal μ b vb) {r : Bool} {d : Nat} (h : zws ty.desc a b = some r) :
  (Op.equalIn (d + 1) t va vb).run P w = .ok r w := by
 obtain ⟨D, hD⟩ := hF.und
 have h0 := hF.desc
 unfold zfy at h0; rw [hD] at h0; unfold Op.equalIn; rw [Sem.run_bind, za0 hD, Result.andThen_ok]; rw [<- h0] at h
 cases D <;> simp only [zws] at h <;> try (cases h; done)
 case bool =>
  simp only [zsm, zac, zdd] at h; obtain ⟨x, rfl, y, rfl, h⟩ := h
  cases h; rw [zal] at ha hb; rw [ha, hb, zn3]; rfl
 case int k =>
  simp only [zzga, zac, zcl, zae, zev] at h; obtain ⟨x, rfl, y, rfl, hk, h⟩ := h
  cases h; rw [zal] at ha hb; rw [ha, hb, zkd]; simp [hk]
 case string =>
  simp only [zuf, zac, zc5] at h; obtain ⟨x, rfl, y, rfl, h⟩ := h
  cases h; rw [zal] at ha hb; obtain ⟨s, rfl, rfl⟩ := ha
  obtain ⟨u, rfl, rfl⟩ := hb
  have : (s == u) = zhk (zbm s) (zbm u) := by
   rw [Bool.eq_iff_iff, zdb]; have h1 : (s == u) = (s.data == u.data) := rfl
   rw [h1]; exact ⟨fun h => (by unfold zbm; rw [eq_of_beq h]), fun h => (by rw [zjx h]; exact beq_self_eq_true u.data)⟩
  rw [<- this]; rfl
 case pointer el =>
  rcases zhy h with ⟨h1, h2, rfl⟩ | ⟨h1, h2, rfl⟩ | ⟨h1, h2, rfl⟩ <;> cases a <;> simp [zab.tag] at h1 <;> cases b <;> simp [zab.tag] at h2 <;> rw [zal] at ha <;> rw [zal] at hb
  ·rw [ha, hb]; rfl
  ·obtain ⟨i, _, hb⟩ := hb; rw [ha, hb]; rfl
  ·obtain ⟨i, _, ha⟩ := ha; rw [ha, hb]; rfl
 case slice el =>
  rcases zhy h with ⟨h1, h2, rfl⟩ | ⟨h1, h2, rfl⟩ | ⟨h1, h2, rfl⟩ <;> cases a <;> simp [zab.tag] at h1 <;> cases b <;> simp [zab.tag] at h2 <;> rw [zal] at ha <;> rw [zal] at hb
  ·rw [ha, hb]; rfl
  ·rcases hb with ⟨i, _, _, hb, _⟩ | ⟨_, _, _, _, _, hb, _⟩ <;> (rw [ha, hb]; rfl)
  ·rcases ha with ⟨i, _, _, ha, _⟩ | ⟨_, _, _, _, _, ha, _⟩ <;> (rw [ha, hb]; rfl)
 case map k el =>
  rcases zhy h with ⟨h1, h2, rfl⟩ | ⟨h1, h2, rfl⟩ | ⟨h1, h2, rfl⟩ <;> cases a <;> simp [zab.tag] at h1 <;> cases b <;> simp [zab.tag] at h2 <;> rw [zal] at ha <;> rw [zal] at hb
  ·rw [ha, hb]; rfl
  ·obtain ⟨i, _, hb⟩ := hb; rw [ha, hb]; rfl
  ·obtain ⟨i, _, ha⟩ := ha; rw [ha, hb]; rfl
 case func ps rs vd =>
  rcases zhy h with ⟨h1, h2, rfl⟩ | ⟨h1, h2, rfl⟩ | ⟨h1, h2, rfl⟩ <;> cases a <;> simp [zab.tag] at h1 <;> cases b <;> simp [zab.tag] at h2 <;> rw [zal] at ha <;> rw [zal] at hb
  ·rw [ha, hb]; rfl
  ·obtain ⟨i, _, _, hb, _⟩ := hb; rw [ha, hb]; rfl
  ·obtain ⟨i, _, _, ha, _⟩ := ha; rw [ha, hb]; rfl
 case interface ms =>
  rcases zhy h with ⟨h1, h2, rfl⟩ | ⟨h1, h2, rfl⟩ | ⟨h1, h2, rfl⟩ <;> cases a <;> simp [zab.tag] at h1 <;> cases b <;> simp [zab.tag] at h2 <;> rw [zal] at ha <;> rw [zal] at hb
  ·rw [ha, hb]; rfl
  ·obtain ⟨i, hb, _⟩ := hb; rw [ha, hb]; rfl
  ·obtain ⟨i, ha, _⟩ := ha; rw [ha, hb]; rfl
theorem zqh {t : Nat} {g : Array Field} (h : P.underlying t = some (.struct g)) : P.fieldsOf t = g := by unfold Program.fieldsOf; rw [h]
theorem zzc0 (hT : zcm P C) {D : Nat} {eq : Nat -> zab -> zab -> Option Bool} (heq : ∀ t a b va vb r, zal μ a va -> zal μ b vb -> eq t a b = some r -> (Op.equalIn D t va vb).run P w = .ok r w)
  {xs ys : List zab} {vx vy : Array Value} (hx : za9 μ xs vx.toList) (hy : za9 μ ys vy.toList) : ∀ (g : List Field) (r : Bool), (∀ f ∈ g, f.name ≠ "_") -> z38 C eq xs ys (g.map fun f => (f.offset, f.type, P.cellsOf f.type)) = some r →
   (Op.eqFields D vx vy g).run P w = .ok r w := by
 intro g; induction g with
 | nil => intro r _ h; cases h; rfl
 | cons f g ih =>
  intro r hn h; rw [ybn, z38] at h; simp only [zac] at h; obtain ⟨a, ha, b, hb, q, hq, h⟩ := h
  obtain ⟨va, h1, h2⟩ := zlf (P := P) (w := w) hT hx ha
  obtain ⟨vb, h3, h4⟩ := zlf (P := P) (w := w) hT hy hb
  have h5 := heq _ _ _ _ _ _ h2 h4 hq
  rw [Op.eqFields, if_pos (hn f (by simp))]
  simp only [Sem.run_bind, h1, Result.andThen_ok, h3, h5]
  cases q with
  | true => rw [cond_true] at h; simpa using ih r (fun f hf => hn f (by simp [hf])) h
  | false => rw [cond_false] at h; cases h; simp
theorem zzek (hT : zcm P C) : ∀ (d D t : Nat) (a b : zab) (va vb : Value) (r : Bool), d <= D -> zal μ a va -> zal μ b vb -> aeq C d t a b = some r -> (Op.equalIn D t va vb).run P w = .ok r w := by
 intro d; induction d with
 | zero => intro D t a b va vb r _ _ _ h; cases h
 | succ d ih =>
  intro D t a b va vb r hD ha hb h
  cases D with
  | zero => omega
  | succ D =>
   rw [aeq, zac] at h; obtain ⟨ty, hty, h⟩ := h
   have hF := hT.facts hty
   split at h
   ·rename_i fs hfs
    simp only [zae, zac, zgc] at h; obtain ⟨hok, xs, rfl, ys, rfl, h⟩ := h
    obtain ⟨g, hg, rfl⟩ := zed hF hfs
    obtain ⟨h1, _, h3⟩ := hF.eqOk hok
    rw [zal] at ha; rw [zal] at hb; obtain ⟨cx, rfl, hx⟩ := ha
    obtain ⟨cy, rfl, hy⟩ := hb
    have hfo := zqh hg
    rw [run_equalIn_struct w D t cx cy (by rw [hfo]; exact hg) h1, hfo]
    exact zzc0 hT (fun t a b va vb r h1 h2 h3 => ih D t a b va vb r (by omega) h1 h2 h3) hx hy g.toList r (hfo ▸ h3) h
   ·exact z8r hF ha hb h
theorem zzgs (hT : zcm P C) {d t : Nat} {a b : zab} {l m : Array Value} {r : Bool} (ha : zal μ a (.agg l)) (hb : zal μ b (.agg m)) (h : aeq C d t a b = some r) : P.eqGuardType P.depth t = false := by
 cases d with
 | zero => cases h
 | succ d =>
  rw [aeq, zac] at h; obtain ⟨ty, hty, h⟩ := h
  split at h
  ·rw [zae] at h; exact ((hT.facts hty).eqOk h.1).2.1
  ·exfalso
   have hag : ∀ (a : zab) (l : Array Value), zal μ a (.agg l) -> a.tag = 13 := by
    intro a l ha
    cases a <;> rw [zal] at ha <;> first | rfl | (exfalso; revert ha; simp)
   have h1 := hag _ _ ha
   have h2 := hag _ _ hb
   cases a <;> simp [zab.tag] at h1
   cases b <;> simp [zab.tag] at h2
   revert h
   cases ty.desc <;> simp [zws, zsm, zab.asBool, zzga, zab.asIntK, zuf, zab.asStr, zwr, z1u, zab.tag, zah, Nat.beq]
theorem znm {a : zab} {v : Value} (h : zal μ a v) : v = .nilIface -> a.tag = 12 := by
 intro hv; subst hv
 cases a <;> rw [zal] at h <;> first | rfl | (exfalso; revert h; simp)
theorem zqp (hT : zcm P C) {op : BinOp} {t yt : TypeId} {x y : Operand} {a b : zab} {neg : Bool} (hx : zal μ a (ρ x)) (hy : zal μ b (ρ y)) (ha : a.asIntK = none) (hs : a.asStr = none)
  (hop : (neg = false /\ op = .eql) \/ (neg = true /\ op = .neq)) (h : zou neg C t x y a b = some v) : LOk P μ w ρ ⟨dst, .binOp op t x y yt, type, pos, after, guard⟩ v := by
 unfold zou at h; simp only [zae, zac] at h; obtain ⟨hg, r, hr, h⟩ := h
 cases h; have h1 : (Op.equal t (ρ x) (ρ y)).run P w = .ok r w := zzek hT 20 10000 t a b _ _ r (by decide) hx hy hr
 have hG : (eqGuard op t x y (ρ x) (ρ y)).run P w = .ok () w := by
  by_cases hag : ∃ l m, ρ x = .agg l /\ ρ y = .agg m
  ·obtain ⟨l, m, h2, h3⟩ := hag
   rw [h2] at hx; rw [h3] at hy; rw [h2, h3]; exact zze (zzgs hT hx hy hr)
  ·refine zhz ?_ fun l m hlm => hag ⟨l, m, hlm⟩
   by_cases hn : ρ x = .nilIface /\ ρ y = .nilIface
   ·right
    have h2 := znm hx hn.1
    have h3 := znm hy hn.2
    unfold z1t at hg; rw [h2, h3] at hg; simpa [Nat.beq] using hg
   ·exact .inl hn
 have hnx : ∀ k n, ρ x ≠ .int k n := by
  intro k n hv; rw [hv] at hx
  cases a <;> rw [zal] at hx <;> first | (simp [zab.asIntK] at ha; done) | (revert hx; simp)
 have hsx : ∀ s, ρ x ≠ .string s := by
  intro s hv; rw [hv] at hx
  cases a <;> rw [zal] at hx <;> first | (simp [zab.asStr] at hs; done) | (revert hx; simp)
 have hfx : ∀ k n, ρ x ≠ .float k n := by
  intro k n hv; rw [hv] at hx
  cases a <;> rw [zal] at hx <;> revert hx <;> simp
 have hcx : ∀ k n m, ρ x ≠ .complex k n m := by
  intro k n m hv; rw [hv] at hx
  cases a <;> rw [zal] at hx <;> revert hx <;> simp
 rcases hop with ⟨rfl, rfl⟩ | ⟨rfl, rfl⟩
 ·refine ⟨.bool r, zhq hG ?_, by rw [zal]; rfl⟩
  revert h1 hnx hsx hfx hcx
  generalize ρ x = vx
  generalize ρ y = vy
  intro h1 hnx hsx hfx hcx
  cases vx <;> first
   | exact absurd rfl (hnx _ _)
   | exact absurd rfl (hsx _)
   | exact absurd rfl (hfx _ _)
   | exact absurd rfl (hcx _ _ _)
   | simp [binOp, h1]
 ·refine ⟨.bool (!r), zhq hG ?_, by rw [zal]; rfl⟩
  revert h1 hnx hsx hfx hcx
  generalize ρ x = vx
  generalize ρ y = vy
  intro h1 hnx hsx hfx hcx
  cases vx <;> first
   | exact absurd rfl (hnx _ _)
   | exact absurd rfl (hsx _)
   | exact absurd rfl (hfx _ _)
   | exact absurd rfl (hcx _ _ _)
   | simp [binOp, h1]
theorem z7r (hT : zcm P C) (hE : zgx μ e ρ) {op : BinOp} {t yt : Nat} {x y : Operand} (h : z7s op t x y C e H = some v) : LOk P μ w ρ ⟨dst, .binOp op t x y yt, type, pos, after, guard⟩ v := by
 unfold z7s at h; simp only [zac] at h; obtain ⟨a, ha, b, hb, h⟩ := h
 have hx := hE _ _ ha
 have hy := hE _ _ hb
 clear ha hb
 revert h
 have plain : ∀ op, op ≠ .shl -> op ≠ .shr -> zun op C t x y a b = some v -> LOk P μ w ρ ⟨dst, .binOp op t x y yt, type, pos, after, guard⟩ v := by
  intro op _ _ h; unfold zun at h; split at h
  ·rename_i i hi
   simp only [zac, zcl, zae, zev] at h; obtain ⟨j, rfl, hk, h⟩ := h
   rw [zcl] at hi; subst hi; rw [zal] at hx; rw [zal] at hy; obtain ⟨_, _, h2⟩ := z9g (P := P) (μ := μ) (w := w) h
   obtain ⟨v', h3, h4⟩ := h2 t
   refine ⟨v', zhq (zhz (.inl (by rw [hx]; simp)) (by rw [hx]; simp)) ?_, h4⟩
   rw [hx, hy, <- hk]; exact h3
  ·rename_i hi
   split at h
   ·rename_i s hs
    simp only [zac, zc5] at h; obtain ⟨u, rfl, h⟩ := h
    rw [zc5] at hs; subst hs; rw [zal] at hx; rw [zal] at hy; obtain ⟨sx, hx, rfl⟩ := hx
    obtain ⟨sy, hy, rfl⟩ := hy
    obtain ⟨_, _, h2⟩ := z9d (P := P) (μ := μ) (w := w) h
    obtain ⟨v', h3, h4⟩ := h2 t
    refine ⟨v', zhq (zhz (.inl (by rw [hx]; simp)) (by rw [hx]; simp)) ?_, h4⟩
    rw [hx, hy]; exact h3
   ·rename_i hs
    cases op <;> simp only [z9f] at h <;> first
     | exact zqp hT hx hy hi hs (.inl ⟨rfl, rfl⟩) h
     | exact zqp hT hx hy hi hs (.inr ⟨rfl, rfl⟩) h
     | (cases h; done)
 intro h
 cases op <;> simp only [binA] at h <;> first
  | exact zqo hx hy (.inl ⟨rfl, h⟩)
  | exact zqo hx hy (.inr ⟨rfl, h⟩)
  | exact plain _ (by simp) (by simp) h
theorem z7w {k : IntKind} (h : kLo k = 0) : kHi k = 2 ^ k.bits := by
 cases k <;> first
  | (cases h; done)
  | rfl
theorem zzdw (hE : zgx μ e ρ) {op : UnOp} {t : Nat} {x : Operand} (h : lUn op x C e H = some v) : LOk P μ w ρ ⟨dst, .unOp op t x, type, pos, after, guard⟩ v := by
 unfold lUn at h; simp only [zac] at h; obtain ⟨a, ha, h⟩ := h
 have hx := hE _ _ ha
 cases op <;> simp only [unA] at h <;> try (cases h; done)
 case neg =>
  simp only [unNeg, zac, zcl] at h; obtain ⟨p, rfl, h⟩ := h
  cases h; rw [zal] at hx; refine ⟨.int p.1 (p.1.wrap (0 - p.2)), ?_, by rw [zal, zcx]⟩
  simp [execOp, hx, Op.unary, Op.intArith]
 case xor =>
  simp only [zx1, zac, zcl, zae, zck] at h; obtain ⟨p, rfl, hk, h⟩ := h
  obtain ⟨a, b, ha1, hb, hx1, hy, rfl⟩ := zjr h
  rw [zal] at hx; have h1 : Nat.xor a b < kHi p.1 := by
   have : Nat.xor a b < 2 ^ p.1.bits := Nat.xor_lt_two_pow (by rw [<- z7w hk]; exact hx1) (by rw [<- z7w hk]; exact hy)
   rw [z7w hk]; exact this
  refine ⟨.int p.1 (Nat.xor a b : Nat), ?_, by rw [zal]⟩
  have hm : (if p.1.signed then (-1 : Int) else p.1.max) = (a : Int) := by
   rw [<- ha1]; revert hk
   cases p.1 <;> intro hk <;> first
    | (cases hk; done)
    | rfl
  have e2 : (Op.intBits .xor p.1 (if p.1.signed then -1 else p.1.max) p.2).run P w = .ok (.int p.1 (Nat.xor a b : Nat)) w := by
   rw [hm, hb]; simp only [Op.intBits, BitVec.toNat_xor, zf7 hx1, zf7 hy]; rw [show (a ^^^ b : Nat) = Nat.xor a b from rfl, ze3 h1]
   rfl
  simp [execOp, hx, Op.unary]
  rw [e2]; rfl
 case not =>
  simp only [unNot, zac, zdd] at h; obtain ⟨b, rfl, h⟩ := h
  cases h; rw [zal] at hx; refine ⟨.bool (!b), ?_, by rw [zal]⟩
  simp [execOp, hx, Op.unary]
end
end Go.Am
namespace Go.Am
open Go
section
variable {P : Program} {C : Ctx} {B N : Nat} {μ : Mu} {H : zaf} {w : World}
variable {e : Env} {ρ : Operand -> Value} {dst : Option Tmp} {type : TypeId} {pos : String} {after : Array Edge} {guard : Option (Nat × Bool)} {v : zab}
theorem zw5 {a : zab} {n : Nat} (h : zjd a = some n) : a = .int .u8 (n : Int) /\ n < 256 := by
 unfold zjd at h; simp only [zac, zcl, zae, zev, zht, zcz] at h; obtain ⟨p, rfl, hk, m, hm, hlt, h⟩ := h
 cases h; rw [hk, hm]; exact ⟨rfl, hlt⟩
theorem zzp (l : List Nat) : ∀ s : ByteArray, (∀ n ∈ l, n < 256) -> zbm ((l.map fun n : Nat => (n : Int)).foldl (fun r n => r.push (UInt8.ofNat n.toNat)) s) = zbm s ++ l := by
 induction l with
 | nil => intro s _; simp
 | cons n l ih =>
  intro s h; rw [ybn, List.foldl_cons, ih _ fun m hm => h m (by simp [hm])]
  have : zbm (s.push (UInt8.ofNat (n : Int).toNat)) = zbm s ++ [n] := by
   have hn := h n (by simp)
   simp [zbm, Nat.mod_eq_of_lt hn]
  rw [this]; simp
theorem z3z {μ : Mu} : ∀ {l : List zab} {r : List Nat} {vs : List Value}, zd7 zjd l = some r -> za9 μ l vs -> vs = r.map (fun n : Nat => Value.int .u8 (n : Int)) /\ ∀ n ∈ r, n < 256 := by
 intro l; induction l with
 | nil => intro r vs h k; rw [zgk] at h; cases h; rw [za9] at k; subst k; exact ⟨rfl, by simp⟩
 | cons a l ih =>
  intro r vs h k; rw [zcb, zac] at h; obtain ⟨n, hn, h⟩ := h
  rw [zac] at h; obtain ⟨r', hr, h⟩ := h
  cases h; rw [za9] at k; obtain ⟨v, m, rfl, h1, h2⟩ := k
  obtain ⟨rfl, hlt⟩ := zw5 hn
  rw [zal] at h1; obtain ⟨h3, h4⟩ := ih hr h2
  subst h1 h3
  exact ⟨rfl, fun m hm => (yat.1 hm).elim (fun e => e ▸ hlt) (h4 m)⟩
theorem zwy (hH : za3 B N μ H w) {a : zab} {x : Value} (hx : zal μ a x) (h : zh0 H a = some v) : ∃ v', (Conv.bytesToString x).run P w = .ok v' w /\ zal μ v v' /\ ∃ A l c, x = .slice A l c := by
 unfold zh0 at h; split at h
 ·rename_i s hs
  rw [zc7] at hs; subst hs; simp only [zac] at h; obtain ⟨c, hc, l, hl, r, hr, h⟩ := h
  cases h; rw [zal] at hx; rcases hx with ⟨i, cap', hi, rfl, _⟩ | ⟨_, h0, _, A, _, rfl, _⟩
  rotate_left
  ·rw [h0] at hl
   cases hl
   cases hr; refine ⟨_, run_bytesToString w _ _ _ [] rfl, ?_, _, _, _, rfl⟩
   rw [zal]; exact ⟨_, rfl, rfl⟩
  obtain ⟨vs, _, h2, h3, _⟩ := hH.manyAt (P := P) hc hi hl
  obtain ⟨h4, h5⟩ := z3z hr h2
  refine ⟨_, run_bytesToString w _ _ _ (r.map fun n : Nat => (n : Int)) (by rw [h3, h4]; simp), ?_, _, _, _, rfl⟩
  rw [zal]; exact ⟨_, rfl, by rw [zzp _ _ h5]; simp [zbm]⟩
 ·simp only [zae, zck] at h
  obtain ⟨h1, h⟩ := h
  cases h; rw [zj5.2.1] at h1; subst h1; rw [zal] at hx; subst hx; exact ⟨.string .empty, rfl, by rw [zal]; exact ⟨_, rfl, rfl⟩, _, _, _, rfl⟩
theorem zzcq (hT : zcm P C) (hH : za3 B N μ H w) {s d : Nat} {sty dty : ATy} (hs : C.tys.get s = some sty) (hd : C.tys.get d = some dty) {a : zab} {x : Value} (hx : zal μ a x) (h : znc C sty dty a H = some v) :
  ∃ v', (convert s d x).run P w = .ok v' w /\ zal μ v v' := by
 have hS := hT.facts hs
 have hD := hT.facts hd
 obtain ⟨su, hsu⟩ := hS.und
 unfold znc at h; split at h
 ·rename_i k hk
  simp only [zac, zne] at h; obtain ⟨n, ⟨k', rfl⟩, h⟩ := h
  cases h; rw [zal] at hx; subst hx; refine ⟨.int k (k.wrap n), ?_, by rw [zal, zcx]⟩
  simp only [convert, Sem.run_bind, za0 hsu, za0 (zui hD hk), Result.andThen_ok]
  rfl
 ·simp only [zae] at h
  obtain ⟨hstr, h⟩ := h
  rw [zak] at h; split at h
  ·rename_i ht
   cases h
   cases v <;> simp [zab.tag, Nat.beq] at ht
   have hx' := hx
   rw [zal] at hx; obtain ⟨str, rfl, _⟩ := hx
   refine ⟨.string str, ?_, hx'⟩
   simp only [convert, Sem.run_bind, za0 hsu, za0 (zib hD hstr), Result.andThen_ok]
   cases su <;> rfl
  ·simp only [zac, zae, zev] at h
   obtain ⟨el, hel, et, het, k, hk, rfl, h⟩ := h
   obtain ⟨v', h1, h2, A, l, c, rfl⟩ := zwy (P := P) hH hx h
   exact ⟨v', by rw [run_convert_bytes_string w s d el A l c (zcj hS hel) (zui (hT.facts het) hk) (zib hD hstr)]; exact h1, h2⟩
theorem z1c (hT : zcm P C) (hH : za3 B N μ H w) (hE : zgx μ e ρ) {s d : Nat} {x : Operand} (h : zj0 s d x C e H = some v) : LOk P μ w ρ ⟨dst, .convert s d x, type, pos, after, guard⟩ v := by
 unfold zj0 at h; simp only [zac] at h; obtain ⟨a, ha, sty, hs, dty, hd, h⟩ := h
 obtain ⟨v', h1, h2⟩ := zzcq hT hH hs hd (hE _ _ ha) h
 exact ⟨v', by simp only [execOp, Sem.run_bind, h1, Result.andThen_ok, Sem.run_pure], h2⟩
theorem zif {y : Nat} {a : zab} {n : Nat} (h : zl6 y a = some n) : (∃ k, a = .int k (n : Int)) /\ n <= y := by
 unfold zl6 at h; simp only [zac, zjy, zae, zhm] at h; obtain ⟨m, ⟨k, rfl⟩, hle, h⟩ := h
 cases h; exact ⟨⟨k, rfl⟩, hle⟩
theorem zf0 {y y' : Nat} {a : zab} {x : Value} (hx : zal μ a x) {n : Nat} (h : zl6 y a = some n) (hy : y <= y') (code : BoundsCode) : (Instr.sliceBound x y' code).run P w = .ok n w := by
 obtain ⟨⟨k, rfl⟩, hle⟩ := zif h
 rw [zal] at hx; subst hx; have h1 : (0 : Int) <= n /\ (n : Int) <= y' := ⟨by omega, by omega⟩
 simp only [Instr.sliceBound, asIntOf, Sem.run_bind, Sem.run_pure, Result.andThen_ok, Sem.run_ite, if_pos h1]; simp
theorem zd8 {isSlice : Bool} {len cap cap' : Nat} (hc : cap <= cap') {lo hi : Option zab} {lo' hi' : Option Value}
  (h1 : z9u μ lo lo') (h2 : z9u μ hi hi')
  {p : Nat × Nat} (h : zfe len cap lo hi = some p) : (Instr.sliceBounds isSlice len cap' lo' hi' none).run P w = .ok (p.1, p.2, cap') w /\ p.1 <= p.2 /\ (p.2 <= cap \/ p.2 = len) := by
 unfold zfe at h; simp only [zac] at h; obtain ⟨hb, hhi, l, hlo, h⟩ := h
 cases h; have hH : hb <= cap \/ hb = len := by
  cases hi with
  | none => right; cases hhi; rfl
  | some a => left; exact (zif hhi).2
 have hL : l <= hb := by
  cases lo with
  | none => cases hlo; omega
  | some a => exact (zif hlo).2
 refine ⟨?_, hL, hH⟩
 unfold Instr.sliceBounds
 cases hi with
 | none =>
  cases hi' with
  | some v => exact h2.elim
  | none =>
   cases hhi
   cases lo with
   | none =>
    cases lo' with
    | some v => exact h1.elim
    | none => cases hlo; simp
   | some a =>
    cases lo' with
    | none => exact h1.elim
    | some v => simp [zf0 (P := P) (w := w) h1 hlo (yal _)]
 | some b =>
  cases hi' with
  | none => exact h2.elim
  | some u =>
   cases lo with
   | none =>
    cases lo' with
    | some v => exact h1.elim
    | none => cases hlo; simp [zf0 (P := P) (w := w) h2 hhi hc]
   | some a =>
    cases lo' with
    | none => exact h1.elim
    | some v => simp [zf0 (P := P) (w := w) h2 hhi hc, zf0 (P := P) (w := w) h1 hlo (yal _)]
theorem zj7 {b size cap l : Nat} {arr : Bool} (hH : za3 B N μ H w) {i : BI} (hi : μ b = some i) (h : za6 H b size cap l arr = true) :
  i.tight = true \/ (i.tight = false /\ arr = false /\ i.es = size /\ (cap ≠ l \/ l = 0)) := by
 unfold za6 at h; split at h
 ·rename_i c hc
  obtain ⟨o, h2, h3⟩ := hH.blk _ _ _ (zcs hc) hi
  obtain ⟨cs, elem, fr, _, _, _, _, h4⟩ := h3
  split at h
  ·rename_i hn; rw [hn] at h4; exact .inl h4
  ·rename_i es hes
   rw [hes] at h4; simp only [yac, ybr, ybq, zck, beqf] at h; exact .inr ⟨h4.1, h.1.1, h4.2.1.trans h.1.2, h.2⟩
 ·cases h
theorem z31 {len cap : Nat} {lo hi : Option zab} {p : Nat × Nat} (h : zfe len cap lo hi = some p) : p.1 <= p.2 := by
 unfold zfe at h; simp only [zac] at h; obtain ⟨hb, hhi, l, hlo, h⟩ := h
 cases h
 cases lo with
 | none => cases hlo; exact Nat.zero_le _
 | some a => exact (zif hlo).2
theorem zpb (hT : zcm P C) (hH : za3 B N μ H w) {arr : Bool} {el b off len cap cap' : Nat} {lo hi : Option zab} {i : BI} (hi' : μ b = some i)
  (hcap : cap <= cap') (ht : i.tight = true -> cap' = cap) (hr : i.tight = false -> arr = false -> off + cap' * i.es <= i.room) (h : zdo C H arr el b off len cap lo hi = some v) :
  ∃ p size, zfe len cap lo hi = some p /\ (sizeOf el).run P w = .ok size w ∧
   zal μ v (.slice (some (if cap' = p.1 then ⟨i.b, off, none⟩ else Addr.add ⟨i.b, off, none⟩ (p.1 * size))) (p.2 - p.1) (cap' - p.1)) := by
 unfold zdo at h; simp only [zac] at h; obtain ⟨et, het, p, hp, h⟩ := h
 rw [zak] at h; split at h
 ·rename_i hend
  cases h; simp only [yac, zhm] at hend; obtain ⟨⟨hle, hle2⟩, hend⟩ := hend
  have hcp : cap = p.1 := by
   unfold zca at hend; split at hend
   ·split at hend
    ·cases hend
    ·simp only [yac, zck] at hend; exact hend.1.2
   ·cases hend
  refine ⟨p, et.size, hp, (hT.facts het).size, ?_⟩
  rw [zal]; rw [show p.2 - p.1 = 0 by omega]; exact .inr ⟨rfl, rfl, rfl, _, _, rfl, .inr rfl⟩
 simp only [zae, yac, zhm] at h; obtain ⟨⟨hle, hf⟩, h⟩ := h
 cases h; have hle' := z31 hp
 refine ⟨p, et.size, hp, (hT.facts het).size, ?_⟩
 rw [zal]; have hoff : (if cap' = p.1 then (⟨i.b, off, none⟩ : Addr) else Addr.add ⟨i.b, off, none⟩ (p.1 * et.size)) = ⟨i.b, (bif Nat.beq cap p.1 then off else off + p.1 * et.size), none⟩ := by
  rw [zkh, zak]; simp only [zck]; rcases zj7 hH hi' hf with h1 | ⟨_, _, _, h1⟩
  ·rw [ht h1]; split <;> rfl
  ·by_cases hc : cap = p.1
   ·have h2 : p.1 = 0 := h1.resolve_left fun k => k hc
    rw [if_pos hc, h2]; split <;> simp
   ·rw [if_neg hc, if_neg (by omega)]
 refine .inl ⟨i, cap' - p.1, hi', by rw [hoff], by omega, fun h1 => by rw [ht h1], fun h1 => ?_⟩
 rcases zj7 hH hi' hf with h2 | ⟨_, h3, h4, h5⟩
 ·rw [h1] at h2; cases h2
 ·have h6 := hr h1 h3
  rw [zak]; simp only [zck]; rw [h4] at h6 ⊢
  have h8 : p.1 * et.size + (cap' - p.1) * et.size = cap' * et.size := by rw [<- yap]; congr 1; omega
  split
  ·omega
  ·omega
theorem zwc (hT : zcm P C) (hH : za3 B N μ H w) (hE : zgx μ e ρ) {t : Nat} {x : Operand} {lo hi mx : Option Operand} (h : (zlo t x lo hi mx).f C e H = some v) :
  LOk P μ w ρ ⟨dst, .slice t x lo hi mx, type, pos, after, guard⟩ v := by
 unfold zlo at h; split at h
 ·simp only [zlp, zac] at h
  obtain ⟨a, ha, l, hl, u, hu, ty, hty, h⟩ := h
  have hx := hE _ _ ha
  have h1 := hE.opt hl
  have h2 := hE.opt hu
  have hF := hT.facts hty
  have run : ∀ {v'}, (Instr.sliceAt t (ρ x) (lo.map ρ) (hi.map ρ) none).run P w = .ok v' w -> (execOp ρ ⟨dst, .slice t x lo hi none, type, pos, after, guard⟩).run P w = .ok (.value v') w := by
   intro v' hr; simp only [execOp, Option.map_none, Sem.run_bind, hr, Result.andThen_ok, Sem.run_pure]
  unfold zfx at h; split at h
  ·rename_i s hs
   rw [zc5] at hs; subst hs; rw [zae] at h; obtain ⟨hstr, h⟩ := h
   unfold zoj at h; simp only [zac, zav, zf5, zfi] at h; obtain ⟨p, hp, h⟩ := h
   cases h; rw [zal] at hx; obtain ⟨str, hxv, rfl⟩ := hx
   rw [zdc] at hp; obtain ⟨h3, _⟩ := zd8 (P := P) (w := w) (isSlice := false) (yal _) h1 h2 hp
   refine ⟨.string (str.extract p.1 p.2), run ?_, by rw [zal]; exact ⟨_, rfl, zkg _ _ _⟩⟩
   have hu' := zib hF hstr
   simp only [Instr.sliceAt, Sem.run_bind, za0 hu', Result.andThen_ok, Instr.slice, hxv]; simp [h3]
  ·split at h
   ·rename_i r hr
    rw [zc7] at hr; subst hr; simp only [zac] at h; obtain ⟨el, hel, h⟩ := h
    rw [zal] at hx; rcases hx with ⟨i, cap', hi', hxv, hc, ht, hrm⟩ | ⟨k1, k3, k4, A, c, hxv, k2⟩
    rotate_left
    ·unfold zdo at h
     simp only [zac] at h; obtain ⟨et, het, p, hp, h⟩ := h
     rw [zak] at h; obtain ⟨h3, h6, h7⟩ := zd8 (P := P) (w := w) (isSlice := true) (cap' := c) (by omega) h1 h2 hp
     have hp2 : p.2 = 0 := by rcases h7 with h7 | h7 <;> omega
     have hp1 : p.1 = 0 := by omega
     have hend : ¬ (Nat.ble p.2 r.2.2.2 && Nat.ble p.1 p.2 && zca H r.1 et.size r.2.2.2 p.1 false) = true := by
      intro e; simp only [yac] at e; have e2 := e.2
      unfold zca at e2; split at e2
      ·split at e2
       ·cases e2
       ·simp only [yac, ybq] at e2
        have e3 := e2.2
        rw [hp1] at e3
        cases e3
      ·cases e2
     rw [if_neg hend] at h; simp only [zae, yac, zhm] at h; obtain ⟨_, h⟩ := h
     cases h; rw [k3] at h3; refine ⟨.slice (some A) 0 c, run ?_, ?_⟩
     ·have hu' := zcj hF hel
      simp only [Instr.sliceAt, Sem.run_bind, za0 hu', Result.andThen_ok, Instr.slice, hxv, h3, Sem.run_pure, (hT.facts het).size, hp1, hp2]
      simp [Addr.add]
     ·rw [zal]
      refine .inr ⟨k1, by rw [hp1, hp2], by rw [k4, hp1], A, c, rfl, ?_⟩
      rw [k4, hp1]; exact k2
    obtain ⟨p, size, hp, h4, h5⟩ := zpb (P := P) (w := w) hT hH hi' hc ht (fun a _ => hrm a) h
    obtain ⟨h3, _⟩ := zd8 (P := P) (w := w) (isSlice := true) hc h1 h2 hp
    refine ⟨_, run ?_, h5⟩
    have hu' := zcj hF hel
    simp only [Instr.sliceAt, Sem.run_bind, za0 hu', Result.andThen_ok, Instr.slice, hxv, h3, Sem.run_pure, h4]; congr 2
    split <;> rfl
   ·split at h
    ·rename_i q hq
     rw [zff] at hq; subst hq; simp only [zac] at h; obtain ⟨ar, har, h⟩ := h
     rw [zal] at hx; obtain ⟨i, hi', hxv⟩ := hx
     obtain ⟨p, size, hp, h4, h5⟩ := zpb (P := P) (w := w) hT hH hi' (yal _) (fun _ => rfl) (fun _ h => by cases h) h
     obtain ⟨h3, _⟩ := zd8 (P := P) (w := w) (isSlice := false) (yal _) h1 h2 hp
     refine ⟨_, run ?_, h5⟩
     have hu' := zos hF har
     simp only [Instr.sliceAt, Sem.run_bind, za0 hu', Result.andThen_ok, hxv, Instr.sureAddr, h3, Sem.run_pure, h4]
    ·simp only [zae, zck, zac] at h
     obtain ⟨htag, el, hel, ety, hety, p, hp, h⟩ := h
     cases h; rw [zj5.2.1] at htag; subst htag; rw [zal] at hx; obtain ⟨h3, h6, h7⟩ := zd8 (P := P) (w := w) (isSlice := true) (yal 0) h1 h2 hp
     have hp2 : p.2 = 0 := by omega
     have hp1 : p.1 = 0 := by omega
     rw [hp1, hp2] at h3; refine ⟨.slice none 0 0, run ?_, by rw [zal]⟩
     have hu' := zcj hF hel
     simp only [Instr.sliceAt, Sem.run_bind, za0 hu', Result.andThen_ok, Instr.slice, hx, h3, Sem.run_pure, (hT.facts hety).size]
     simp
 ·cases h
end
end Go.Am
namespace Go.Am
open Go
section
variable {P : Program} {C : Ctx} {B N : Nat} {μ : Mu} {H : zaf} {w : World}
variable {e : Env} {ρ : Operand -> Value} {dst : Option Tmp} {type : TypeId} {pos : String} {after : Array Edge} {guard : Option (Nat × Bool)} {v : zab}
theorem zlq (hT : zcm P C) (hE : zgx μ e ρ) {t : Nat} {x i : Operand} (h : zc2 t x i C e H = some v) : LOk P μ w ρ ⟨dst, .indexAddr t x i, type, pos, after, guard⟩ v := by
 unfold zc2 at h; simp only [zac, zjy] at h; obtain ⟨ty, hty, a, ha, iv, hi, n, ⟨k, rfl⟩, h⟩ := h
 have hF := hT.facts hty
 have hx := hE _ _ ha
 have hiv := hE _ _ hi
 rw [zal] at hiv; split at h
 ·rename_i s hs
  rw [zc7] at hs; subst hs; simp only [zac, zae, zcz] at h; obtain ⟨el, hel, et, het, hlt, h⟩ := h
  cases h; rw [zal] at hx; rcases hx with ⟨j, cap', hj, hxv, _⟩ | ⟨_, k, _⟩
  rotate_left
  ·rw [k] at hlt; exact absurd hlt (Nat.not_lt_zero _)
  refine ⟨.pointer (some ⟨j.b, s.2.1 + n * et.size, none⟩), ?_, by rw [zal]; exact ⟨j, hj, rfl⟩⟩
  have h1 : (0 : Int) <= (n : Int) /\ (n : Int) < (s.2.2.1 : Int) := ⟨by omega, by omega⟩
  simp only [execOp, Instr.indexAt, hiv, hxv, asIntOf, Sem.run_bind, Sem.run_pure, Result.andThen_ok, za0 (zcj hF hel), (hT.facts het).size, Sem.run_ite, if_pos h1, Int.toNat_natCast, zkh]
 ·simp only [zac, zff, zae, zcz] at h
  obtain ⟨p, rfl, ar, har, et, het, hlt, h⟩ := h
  cases h; rw [zal] at hx; obtain ⟨j, hj, hxv⟩ := hx
  refine ⟨.pointer (some ⟨j.b, p.2 + n * et.size, none⟩), ?_, by rw [zal]; exact ⟨j, hj, rfl⟩⟩
  have h1 : (0 : Int) <= (n : Int) /\ (n : Int) < (ar.1 : Int) := ⟨by omega, by omega⟩
  simp only [execOp, Instr.indexAt, hiv, hxv, asIntOf, Sem.run_bind, Sem.run_pure, Result.andThen_ok, za0 (zos hF har), Instr.sureAddr, (hT.facts het).size, Sem.run_ite, if_pos h1, Int.toNat_natCast, zkh]
theorem zwd (hT : zcm P C) (hE : zgx μ e ρ) {t : Nat} {x i : Operand} (h : zi4 t x i C e H = some v) : LOk P μ w ρ ⟨dst, .index t x i, type, pos, after, guard⟩ v := by
 unfold zi4 at h; simp only [zac, zjy] at h; obtain ⟨ty, hty, a, ha, iv, hi, n, ⟨k, rfl⟩, h⟩ := h
 have hF := hT.facts hty
 have hx := hE _ _ ha
 have hiv := hE _ _ hi
 rw [zal] at hiv; split at h
 ·rename_i s hs
  rw [zc5] at hs; subst hs; simp only [zae, zac, zbe] at h; obtain ⟨hstr, b, hb, h⟩ := h
  cases h; rw [zal] at hx; obtain ⟨str, hxv, rfl⟩ := hx
  rw [z30, Option.map_eq_some_iff] at hb; obtain ⟨u, hu, rfl⟩ := hb
  refine ⟨.int .u8 u.toNat, ?_, by rw [zal]; rfl⟩
  simp only [execOp, Instr.index, hiv, hxv, asIntOf, Sem.run_bind, Sem.run_pure, Result.andThen_ok, za0 (zib hF hstr), Int.natCast_nonneg, if_true, Int.toNat_natCast, hu]
 ·simp only [zac, zgc, zae, zcz] at h
  obtain ⟨l, rfl, ar, har, et, het, hlt, h⟩ := h
  rw [zal] at hx; obtain ⟨cs, hxv, hl⟩ := hx
  obtain ⟨v', h2, h3⟩ := zlf (P := P) (w := w) hT hl h
  refine ⟨v', ?_, h3⟩
  have h1 : (0 : Int) <= (n : Int) /\ (n : Int) < (ar.1 : Int) := ⟨by omega, by omega⟩
  simp only [execOp, Instr.index, hiv, hxv, asIntOf, Sem.run_bind, Sem.run_pure, Result.andThen_ok, za0 (zos hF har), (hT.facts het).size, Sem.run_ite, if_pos h1, Int.toNat_natCast, h2]
theorem zq9 (l : List Value) : ∀ (off k : Nat) (cs : Array Value), off + k + l.length <= cs.size →
  ((l.zipIdx k).foldl (fun cs (c, j) => cs.setIfInBounds (off + j) c) cs).toList = cs.toList.take (off + k) ++ l ++ cs.toList.drop (off + k + l.length) := by
 induction l with
 | nil => intro off k cs _; simp
 | cons a l ih =>
  intro off k cs h; rw [List.zipIdx_cons, List.foldl_cons, ih off (k + 1) _ (by simp at h ⊢; omega)]
  have hk : off + k < cs.toList.length := by simp at h ⊢; omega
  simp only [Array.toList_setIfInBounds]; rw [List.take_set, List.drop_set_of_lt (by omega)]
  rw [show off + (k + 1) = off + k + 1 by omega, List.take_succ_eq_append_getElem hk, List.set_append_right _ _ (by simp; omega)]
  simp only [yba, ycb, yca, yao]; rw [Nat.min_eq_left (by simpa using Nat.le_of_lt hk), Nat.sub_self]
  rw [show off + k + (l.length + 1) = off + k + 1 + l.length by omega]
  rfl
theorem zor {place : Nat -> Option (Nat × Nat)} {ps : List (Nat × zab)} {qs : List (Nat × Value)} (hp : zd9 (fun p q => p.1 = q.1 /\ zal μ p.2 q.2) ps qs) :
  ∀ {cells r : List zab} {cs : Array Value}, za9 μ cells cs.toList -> zob place ps cells = some r -> ∃ out, Instr.fill place cs qs = some out /\ za9 μ r out.toList := by
 induction hp with
 | nil => intro cells r cs hc h; rw [zob] at h; cases h; exact ⟨cs, rfl, hc⟩
 | @cons p q ps qs hpq _ ih =>
  intro cells r cs hc h; rw [zob] at h; simp only [zac] at h; obtain ⟨pl, hpl, mid, hmid, h⟩ := h
  unfold zm8 at hmid; simp only [zae, yac, zck, zhm, zav, zbx, zfi, zf5] at hmid; obtain ⟨⟨h1, h2⟩, hmid⟩ := hmid
  cases hmid; obtain ⟨i, vq⟩ := q
  obtain ⟨rfl, hv⟩ := hpq
  have hvc := zl3 hv
  have hlen := hvc.length
  have hcl := hc.length
  simp only [yca] at hlen hcl; rw [Instr.fill, hpl]; simp only []; have h3 : ¬ (vq.cells.size ≠ pl.2 || decide (pl.1 + vq.cells.size > cs.size)) = true := by
   simp; exact ⟨by omega, by omega⟩
  have h4 : ¬ ((decide (vq.cells.size ≠ pl.2) || decide (pl.1 + vq.cells.size > cs.size)) = true) := by simpa using h3
  obtain ⟨off, sz⟩ := pl
  rw [if_neg h4]; refine ih ?_ h
  have h5 := zq9 vq.cells.toList off 0 cs (by simp; omega)
  rw [<- Array.foldl_toList, Array.toList_zipIdx, h5]; simp only [ybu, yca]; have := ((hc.take off).append hvc).append (hc.drop (off + p.2.cells.length))
  rw [yba] at this; rw [hlen]; simpa using this
theorem z2m {g : Array Field} (h : ∀ f ∈ g.toList, ∃ i, P.info? f.type = some i) : (g.mapM fun f => (do pure (f.offset, <- sizeOf f.type) : Sem (Nat × Nat))).run P w = .ok (g.map fun f => (f.offset, P.cellsOf f.type)) w := by
 obtain ⟨l⟩ := g
 rw [List.mapM_toArray]; simp only [Sem.run_map, List.map_toArray]; have key : ∀ l : List Field, (∀ f ∈ l, ∃ i, P.info? f.type = some i) -> (l.mapM fun f => (do pure (f.offset, <- sizeOf f.type) : Sem (Nat × Nat))).run P w = .ok (l.map fun f => (f.offset, P.cellsOf f.type)) w := by
  intro l; induction l with
  | nil => intro _; rfl
  | cons f l ih =>
   intro h; obtain ⟨i, hi⟩ := h f (by simp)
   have h1 : (sizeOf f.type).run P w = .ok (P.cellsOf f.type) w := by simp [sizeOf, zh1 hi, Program.cellsOf, hi]
   rw [List.mapM_cons]; simp only [Sem.run_bind, h1, Result.andThen_ok, Sem.run_pure, ih fun f hf => h f (by simp [hf])]
   rfl
 rw [key l (by simpa using h)]
 rfl
theorem zwg (hT : zcm P C) (hE : zgx μ e ρ) {t : Nat} {parts : Array (Nat × Operand)} (h : zkb t parts C e H = some v) : LOk P μ w ρ ⟨dst, .build t parts, type, pos, after, guard⟩ v := by
 unfold zkb at h; simp only [zac] at h; obtain ⟨ty, hty, ps, hps, h⟩ := h
 have hF := hT.facts hty
 have hq := hE.parts hps
 obtain ⟨z, hz, _, hzl⟩ := hF.zero (μ := μ)
 split at h
 ·rename_i fs hfs
  simp only [zac, zbe] at h; obtain ⟨l, hl, h⟩ := h
  cases h; obtain ⟨g, hg, rfl⟩ := zed hF hfs
  have hpl : (fun i : Nat => ob ((g.toList.map fun f => (f.offset, f.type, P.cellsOf f.type))[i]?) fun (x : Nat × Nat × Nat) => some (x.1, x.2.2)) = fun i => (g.map fun f => (f.offset, P.cellsOf f.type))[i]? := by
   funext i
   rw [yav]; simp only [Array.getElem?_map]; have : g.toList[i]? = g[i]? := by simp
   rw [this]
   cases g[i]? <;> rfl
  rw [hpl] at hl; obtain ⟨out, ho, hr⟩ := zor hq hzl hl
  refine ⟨.agg out, ?_, by rw [zal]; exact ⟨_, rfl, hr⟩⟩
  have hpr := z2m (P := P) (w := w) (g := g) (by have := hF.fields; rwa [zqh hg] at this)
  simp only [execOp, Instr.build, Sem.run_bind, hz, Result.andThen_ok, za0 hg, hpr, Array.toList_map, ho, Sem.run_pure]
 ·simp only [zac] at h
  obtain ⟨ar, har, et, het, l, hl, h⟩ := h
  cases h; obtain ⟨out, ho, hr⟩ := zor hq hzl hl
  refine ⟨.agg out, ?_, by rw [zal]; exact ⟨_, rfl, hr⟩⟩
  simp only [execOp, Instr.build, Sem.run_bind, hz, Result.andThen_ok, za0 (zos hF har), (hT.facts het).size, Array.toList_map, ho, Sem.run_pure]
theorem zsg (hT : zcm P C) (hE : zgx μ e ρ) {x : Operand} {xt asserted : Nat} {ok : Bool} (h : zgm x asserted ok C e H = some v) : LOk P μ w ρ ⟨dst, .typeAssert x xt asserted ok, type, pos, after, guard⟩ v := by
 unfold zgm at h; simp only [zac, zae] at h; obtain ⟨ty, hty, hb, a, ha, h⟩ := h
 have hF := hT.facts hty
 have hx := hE _ _ ha
 obtain ⟨d, hd, hn⟩ := zl2 hF hb
 obtain ⟨z, hz, hzr, _⟩ := hF.zero (μ := μ)
 split at h
 ·rename_i p hp
  rw [zn4] at hp; subst hp; rw [zal] at hx; obtain ⟨x', hxv, hr⟩ := hx
  rw [zak] at h; split at h
  ·rename_i heq
   rw [zck] at heq
   cases h; refine ⟨if ok then .tuple #[x', .bool true] else x', ?_, ?_⟩
   ·simp only [execOp, Instr.typeAssert, hxv, Sem.run_bind, za0 hd, Result.andThen_ok]
    cases d <;> first | exact absurd rfl (hn _) | simp [heq]
   ·cases ok
    ·exact hr
    ·rw [cond_true, if_pos rfl, zal]; exact ⟨_, rfl, .cons hr (.single (by rw [zal]))⟩
  ·rename_i hne
   rw [zck] at hne; rw [zae] at h; obtain ⟨rfl, h⟩ := h
   cases h; refine ⟨.tuple #[z, .bool false], ?_, by rw [zal]; exact ⟨_, rfl, .cons hzr (.single (by rw [zal]))⟩⟩
   simp only [execOp, Instr.typeAssert, hxv, Sem.run_bind, za0 hd, Result.andThen_ok]
   cases d <;> first | exact absurd rfl (hn _) | simp [hne, hz]
 ·simp only [zae, yac, zck] at h
  obtain ⟨⟨htag, rfl⟩, h⟩ := h
  cases h; rw [zj5.2.2.2.2] at htag; subst htag; rw [zal] at hx; refine ⟨.tuple #[z, .bool false], ?_, by rw [zal]; exact ⟨_, rfl, .cons hzr (.single (by rw [zal]))⟩⟩
  simp only [execOp, Instr.typeAssert, hx, Sem.run_bind, za0 hd, Result.andThen_ok]
  cases d <;> first | exact absurd rfl (hn _) | simp [hz]
theorem znw {t : Nat} {ty : ATy} (hF : zcv P t ty) (h : zc4 ty.desc = true) : P.underlying t = some .bool \/ P.underlying t = some .string \/ ∃ k, P.underlying t = some (.int k) := by
 obtain ⟨D, hD⟩ := hF.und
 have h0 := hF.desc
 unfold zfy at h0; rw [hD] at h0; rw [<- h0] at h; have h1 := zhm.1 h
 cases D <;> simp [zb9.tag] at h1
 ·exact .inl hD
 ·exact .inr (.inr ⟨_, hD⟩)
 ·exact .inr (.inl hD)
def zq0 (D : TypeDesc) (a : zab) : Prop := (∃ k, D = .int k /\ a.tag = 1) \/ (D = .string /\ a.tag = 2) \/ (D = .bool /\ a.tag = 0)
theorem zq0.eq1 {D : TypeDesc} {a b : zab} {r : Bool} (h : zq0 D a) (e : zen a b = some r) : zgo a b = some r := by
 rcases zgn e with ⟨x, y, rfl, rfl, _⟩ | ⟨_, e⟩
 ·rcases h with ⟨_, _, ht⟩ | ⟨_, ht⟩ | ⟨_, ht⟩ <;> simp [zab.tag] at ht
 ·exact e
theorem zrz {D : TypeDesc} {a b : zab} {va vb : Value} (hD : zq0 D a) (ha : zal μ a va) (hb : zal μ b vb) {r : Bool} (h : zgo a b = some r) : Instr.sameNow D va vb = some r := by
 rcases zfb h with ⟨k, x, y, rfl, rfl, rfl⟩ | ⟨x, y, rfl, rfl, rfl⟩ | ⟨x, y, rfl, rfl, rfl⟩ <;> rw [zal] at ha <;> rw [zal] at hb <;>
  rcases hD with ⟨k', rfl, ht⟩ | ⟨rfl, ht⟩ | ⟨rfl, ht⟩ <;> simp [zab.tag] at ht
 ·rw [ha, hb]; simp [Instr.sameNow]
 ·obtain ⟨s, rfl, rfl⟩ := ha
  obtain ⟨u, rfl, rfl⟩ := hb
  have : (s == u) = zhk (zbm s) (zbm u) := by
   rw [Bool.eq_iff_iff, zdb]; have h1 : (s == u) = (s.data == u.data) := rfl
   rw [h1]; exact ⟨fun h => (by unfold zbm; rw [eq_of_beq h]), fun h => (by rw [zjx h]; exact beq_self_eq_true u.data)⟩
  simp only [Instr.sameNow, this]
 ·rw [ha, hb]; rfl
theorem z3m {D : TypeDesc} {k : zab} {kv : Value} (hD : zq0 D k) (hk : zal μ k kv) {l : List (zab × zab)} {es : List MapEntry} (hl : zd9 (fun p e => zal μ p.1 e.key /\ zal μ p.2 e.val) l es) :
  ∀ {i : Nat} {r : Option zab}, zhj k l = some r -> match r with
   | none => Instr.findNow D kv es i = some none
   | some v => ∃ j v', Instr.findNow D kv es i = some (some (j, v')) /\ zal μ v v' := by
 induction hl with
 | nil => intro i r h; rw [zhj] at h; cases h; rfl
 | @cons p e l es hpe _ ih =>
  intro i r h; rw [zhj, zac] at h; obtain ⟨q, hq, h⟩ := h
  have h1 := zrz hD hk hpe.1 (hD.eq1 hq)
  cases q with
  | true =>
   rw [cond_true] at h
   cases h; exact ⟨i, e.val, by rw [Instr.findNow, h1], hpe.2⟩
  | false =>
   rw [cond_false] at h; have := ih (i := i + 1) h
   rw [Instr.findNow, h1]; exact this
theorem zid {D : TypeDesc} {t : Nat} {empty : Bool} {d : Nat} {kv : Value} (hu : P.underlying t = some D) (hD : (∃ k, D = .int k) \/ D = .string \/ D = .bool) : (Instr.checkKey empty (d + 1) t kv).run P w = .ok () w := by
 rw [Instr.checkKey, Sem.run_bind, za0 hu, Result.andThen_ok]; rcases hD with ⟨k, rfl⟩ | rfl | rfl <;> rfl
theorem zig {b : Nat} {l : List (zab × zab)} (h : ze0 H b = some l) : H.t.get b = some (.map l) := by
 unfold ze0 at h; rw [zac] at h; obtain ⟨x, hx, h⟩ := h
 cases x <;> simp [zam.asMap] at h
 subst h; exact hx
theorem za3.mapAt (hH : za3 B N μ H w) {b : Nat} {l : List (zab × zab)} (h : ze0 H b = some l) {i : BI} (hi : μ b = some i) :
  ∃ es clock l', w.heap[i.b]? = some (.map es clock) /\ znh l l' /\ zd9 (fun p e => zal μ p.1 e.key /\ zal μ p.2 e.val) l' es.toList := by
 obtain ⟨o, h2, h3⟩ := hH.blk _ _ _ (zig h) hi
 obtain ⟨es, clock, l', rfl, h4, h5⟩ := h3
 exact ⟨es, clock, l', h2, h4, h5⟩
theorem zhp {r : Nat} {o : Obj} (h : w.heap[r]? = some o) (hc : ∀ a b c, o ≠ .cells a b c) : (getObj r).run P w = .ok o w := by
 simp only [getObj, Sem.run, h]
theorem zmz {t : Nat} {ty : ATy} {D : TypeDesc} (hF : zcv P t ty) (hu : P.underlying t = some D) (hk : zc4 ty.desc = true) {k : zab} (h : zp3 ty.desc k = true) : zq0 D k := by
 have h0 := hF.desc
 unfold zfy at h0; rw [hu] at h0; rw [<- h0] at h; unfold zp3 at h; rw [zck] at h; rcases znw hF hk with h1 | h1 | ⟨kk, h1⟩
 ·rw [hu] at h1; cases h1; exact .inr (.inr ⟨rfl, h.symm⟩)
 ·rw [hu] at h1; cases h1; exact .inr (.inl ⟨rfl, h.symm⟩)
 ·rw [hu] at h1; cases h1; exact .inl ⟨kk, rfl, h.symm⟩
theorem zla {α : Type} {g : α -> PUnit -> Sem (ForInStep PUnit)} : ∀ (l : List α), (∀ a ∈ l, (g a ⟨⟩).run P w = .ok (.yield ⟨⟩) w) -> (forIn l PUnit.unit g).run P w = .ok ⟨⟩ w
 | [], _ => rfl
 | a :: l, h => by
  rw [List.forIn_cons, Sem.run_bind, h a (.head _), Result.andThen_ok]
  exact zla l fun x hx => h x (.tail _ hx)
theorem zzgc {α : Type} {l r : List α} {a : α} {i : Nat} (h : a :: r = l.drop i) : l[i]? = some a /\ r = l.drop (i + 1) := by
 have h1 : (l.drop i)[0]? = some a := by rw [<- h]; rfl
 rw [ycf] at h1; refine ⟨by simpa using h1, ?_⟩
 have : r = (l.drop i).drop 1 := by rw [<- h]; rfl
 rw [this, List.drop_drop]
theorem zqd {f : Nat × Nat × Nat} {fs : List (Nat × Nat × Nat)} {i : Nat} (h : zlx C (f :: fs) i = true) : f.1 = i /\ (∃ ty, C.tys.get f.2.1 = some ty /\ zc4 ty.desc = true) /\ zlx C fs (i + 1) = true := by
 unfold zlx at h; rw [zak] at h; split at h
 case isFalse => cases h
 rename_i h1; split at h
 case h_2 => cases h
 rename_i ty hty; rw [zak] at h; split at h
 case isFalse => cases h
 rename_i h2; exact ⟨zck.1 h1, ⟨ty, hty, h2⟩, h⟩
theorem zsk {f : Nat × Nat × Nat} {fs : List (Nat × Nat × Nat)} {l : List zab} (h : zua C (f :: fs) l = true) : ∃ v r ty, l = v :: r /\ C.tys.get f.2.1 = some ty /\ zp3 ty.desc v = true /\ zua C fs r = true := by
 cases l with
 | nil => cases h
 | cons v r =>
  unfold zua at h; split at h
  case h_2 => cases h
  rename_i ty hty; rw [zak] at h; split at h
  case isFalse => cases h
  rename_i h2; exact ⟨v, r, ty, rfl, hty, h2, h⟩
theorem z8s {d : zb9} {a b : zab} {r : Bool} (hd : zc4 d = true) (hf : zp3 d a = true) (h : zgo a b = some r) : zws d a b = some r := by
 have h1 := zhm.1 hd
 have h2 : d.tag = a.tag := zck.1 hf
 rcases zfb h with ⟨k, x, y, rfl, rfl, hr⟩ | ⟨x, y, rfl, rfl, hr⟩ | ⟨x, y, rfl, rfl, hr⟩ <;> cases d <;> simp [zb9.tag, zab.tag] at h1 h2 <;> exact h
theorem zi8 {d : zb9} (h : zc4 d = true) : d.isAgg = false /\ d.asStruct = none := by
 have h1 := zhm.1 h
 cases d <;> simp [zb9.tag] at h1 <;> exact ⟨rfl, rfl⟩
theorem z1d {xs ys : List zab} : ∀ (fs : List (Nat × Nat × Nat)) (i : Nat) (r : Bool), zlx C fs i = true -> zua C fs (xs.drop i) = true -> zir (xs.drop i) (ys.drop i) = some r -> z38 C (aeq C 1) xs ys fs = some r
 | [], i, r, _, hf, h => by
  generalize xs.drop i = l at hf h
  generalize ys.drop i = m at h
  cases l with
  | cons v l => cases hf
  | nil => cases m with
   | cons v m => cases h
   | nil => cases h; rfl
 | f :: fs, i, r, hfl, hf, h => by
  obtain ⟨e1, ⟨ty, hty, hkd⟩, hfl⟩ := zqd hfl
  obtain ⟨v, l, ty', e2, hty', hfit, hf⟩ := zsk hf
  rw [hty] at hty'; cases hty'
  obtain ⟨gx, lx⟩ := zzgc e2.symm
  rw [e2] at h
  cases e3 : ys.drop i with
  | nil => rw [e3] at h; cases h
  | cons b m =>
   obtain ⟨gy, ly⟩ := zzgc e3.symm
   rw [e3] at h; simp only [zir, zac] at h; obtain ⟨q, hq, s, hs, h⟩ := h
   cases h; obtain ⟨p1, p2⟩ := zi8 hkd
   have px : ∀ {l : List zab} {a : zab}, l[i]? = some a -> zkt C f.2.1 l f.1 = some a := by
    intro l a hl; unfold zkt; rw [hty, zad, p1, cond_false, e1, zbe]; exact hl
   have hq' : aeq C 1 f.2.1 v b = some q := by
    rw [aeq, hty, zad, p2]; exact z8s hkd hfit hq
   rw [z38, px gx, zad, px gy, zad, hq', zad]; rw [lx] at hf hs; rw [ly] at hs
   cases q with
   | false => rfl
   | true => rw [cond_true, z1d fs (i + 1) s hfl hf hs]; rfl
theorem zi7 {ty : ATy} (h : zkc C ty = true) : zc4 ty.desc = true \/ ∃ fs, zc4 ty.desc = false /\ ty.desc.asStruct = some fs /\ ty.eqOk = true /\ zlx C fs 0 = true := by
 unfold zkc at h
 cases hk : zc4 ty.desc with
 | true => exact .inl rfl
 | false =>
  rw [hk, cond_false] at h; split at h
  case h_2 => cases h
  rename_i fs hfs; rw [zak] at h; split at h
  case isFalse => cases h
  rename_i h1; exact .inr ⟨fs, rfl, hfs, h1, h⟩
theorem zh6 {ty : ATy} {k : zab} (hk : zc4 ty.desc = true) (h : zft C ty k = true) : zp3 ty.desc k = true := by
 unfold zft at h; rw [hk, cond_true] at h; exact h
theorem zhh {ty : ATy} {k : zab} {fs : List (Nat × Nat × Nat)} (hk : zc4 ty.desc = false) (hfs : ty.desc.asStruct = some fs) (h : zft C ty k = true) : ∃ l, k = .agg l /\ zua C fs l = true := by
 unfold zft at h; rw [hk, cond_false, hfs] at h; simp only [] at h; split at h
 case h_2 => cases h
 rename_i l hl; exact ⟨l, zgc.1 hl, h⟩
theorem zp4 (hT : zcm P C) {t : Nat} {ty : ATy} (hty : C.tys.get t = some ty) {fs : List (Nat × Nat × Nat)} (hfs : ty.desc.asStruct = some fs) (hok : ty.eqOk = true) (hfl : zlx C fs 0 = true) {l : List zab} (hfit : zua C fs l = true) {b : zab} {va vb : Value} (ha : zal μ (.agg l) va) (hb : zal μ b vb) {r : Bool} (h : zen (.agg l) b = some r) :
  (Op.equal t va vb).run P w = .ok r w := by
 refine zzek hT 2 10000 t (.agg l) b _ _ r (by decide) ha hb ?_
 rcases zgn h with ⟨x, y, e, rfl, h⟩ | ⟨hn, _⟩
 ·cases e
  rw [aeq, hty, zad, hfs]; simp only [zab.asAgg, zad]; rw [hok]; exact z1d fs 0 r hfl hfit h
 ·cases hn
theorem zub {t : Nat} {k : zab} {kv : Value} (hq : ∀ (b : zab) (vb : Value) (r : Bool), zal μ b vb -> zen k b = some r -> (Op.equal t kv vb).run P w = .ok r w) {l : List (zab × zab)} {es : List MapEntry} (hl : zd9 (fun p e => zal μ p.1 e.key /\ zal μ p.2 e.val) l es) :
  ∀ {i : Nat} {r : Option zab}, zhj k l = some r -> match r with
   | none => (Instr.findAsking t kv es i).run P w = .ok none w
   | some v => ∃ j e0, (Instr.findAsking t kv es i).run P w = .ok (some (i + j, e0.val)) w /\ es[j]? = some e0 /\ zal μ v e0.val := by
 induction hl with
 | nil => intro i r h; rw [zhj] at h; cases h; rfl
 | @cons p e l es hpe _ ih =>
  intro i r h; rw [zhj, zac] at h; obtain ⟨q, hq', h⟩ := h
  have h1 := hq _ _ _ hpe.1 hq'
  cases q with
  | true =>
   rw [cond_true] at h
   cases h; exact ⟨0, e, by rw [Instr.findAsking, Sem.run_bind, h1, Result.andThen_ok]; rfl, rfl, hpe.2⟩
  | false =>
   rw [cond_false] at h; have := ih (i := i + 1) h
   rw [Instr.findAsking, Sem.run_bind, h1, Result.andThen_ok]; simp only [yar, if_false]
   cases r with
   | none => exact this
   | some v =>
    obtain ⟨j, e0, g1, g2, g3⟩ := this
    exact ⟨j + 1, e0, by rw [g1, show i + 1 + j = i + (j + 1) by omega], by simpa using g2, g3⟩
theorem zkf {t : Nat} {g : Array Field} (hu : P.underlying t = some (.struct g)) (kv : Value) (es : List MapEntry) : (Instr.findKey t kv es).run P w = (Instr.findAsking t kv es).run P w := by
 unfold Instr.findKey; rw [Sem.run_bind, za0 hu, Result.andThen_ok]
 cases es with
 | nil => simp only [Instr.findNow, Instr.findAsking]
 | cons e es => simp only [Instr.findNow, Instr.sameNow]
theorem z3n (hT : zcm P C) {t : Nat} {ty : ATy} (hty : C.tys.get t = some ty) (hk : zkc C ty = true) {k : zab} {kv : Value} (hfit : zft C ty k = true) (hkv : zal μ k kv) {l : List (zab × zab)} {es : List MapEntry} (hl : zd9 (fun p e => zal μ p.1 e.key /\ zal μ p.2 e.val) l es) {r : Option zab} (hr : zhj k l = some r) :
  match r with
  | none => (Instr.findKey t kv es).run P w = .ok none w
  | some v => ∃ j v', (Instr.findKey t kv es).run P w = .ok (some (j, v')) w /\ zal μ v v' := by
 have hF := hT.facts hty
 rcases zi7 hk with hkd | ⟨fs, hkd, hfs, hok, hfl⟩
 ·obtain ⟨D, hD⟩ := hF.und
  have hfits := zmz hF hD hkd (zh6 hkd hfit)
  have h3 := z3m hfits hkv hl (i := 0) hr
  have hfk : ∀ (q : Option (Nat × Value)), Instr.findNow D kv es 0 = some q -> (Instr.findKey t kv es).run P w = .ok q w := by
   intro q hq; unfold Instr.findKey; simp only [Sem.run_bind, za0 hD, Result.andThen_ok, hq, Sem.run_pure]
  cases r with
  | none => exact hfk _ h3
  | some v => obtain ⟨j, v', g1, g2⟩ := h3; exact ⟨j, v', hfk _ g1, g2⟩
 ·obtain ⟨x, rfl, hx⟩ := zhh hkd hfs hfit
  obtain ⟨g, hg, rfl⟩ := zed hF hfs
  have h3 := zub (P := P) (w := w) (t := t) (kv := kv) (fun b vb r hb h => zp4 hT hty hfs hok hfl hx hkv hb h) hl (i := 0) hr
  rw [zkf hg]
  cases r with
  | none => exact h3
  | some v => obtain ⟨j, e0, g1, _, g2⟩ := h3; exact ⟨0 + j, _, g1, g2⟩
theorem zn0 (hT : zcm P C) {t : Nat} {ty : ATy} (hty : C.tys.get t = some ty) (hk : zkc C ty = true) {k : zab} {kv : Value} (hfit : zft C ty k = true) (hkv : zal μ k kv) {empty : Bool} {d : Nat} : (Instr.checkKey empty (d + 2) t kv).run P w = .ok () w := by
 have hF := hT.facts hty
 rcases zi7 hk with hkd | ⟨fs, hkd, hfs, hok, hfl⟩
 ·obtain ⟨D, hD⟩ := hF.und
  have hfits := zmz hF hD hkd (zh6 hkd hfit)
  have hD' : (∃ k, D = .int k) \/ D = .string \/ D = .bool := by
   rcases hfits with ⟨k, h, _⟩ | ⟨h, _⟩ | ⟨h, _⟩
   ·exact .inl ⟨k, h⟩
   ·exact .inr (.inl h)
   ·exact .inr (.inr h)
  exact zid hD hD'
 ·obtain ⟨x, rfl, hx⟩ := zhh hkd hfs hfit
  obtain ⟨g, hg, rfl⟩ := zed hF hfs
  rw [zal] at hkv; obtain ⟨cs, rfl, hcs⟩ := hkv
  rw [Instr.checkKey, Sem.run_bind, za0 hg, Result.andThen_ok]; simp only []; have key : ∀ (gl : List Field) (i : Nat), zlx C (gl.map fun f => (f.offset, f.type, P.cellsOf f.type)) i = true -> zua C (gl.map fun f => (f.offset, f.type, P.cellsOf f.type)) (x.drop i) = true →
    ∀ f ∈ gl, ∃ v, (part f.type cs f.offset).run P w = .ok v w /\ (Instr.checkKey empty (d + 1) f.type v).run P w = .ok () w := by
   intro gl; induction gl with
   | nil => intro i _ _ f hf; cases hf
   | cons f0 gl ih =>
    intro i h1 h2 f hf; rw [ybn] at h1 h2; obtain ⟨e1, ⟨fty, hfty, hfkd⟩, h1⟩ := zqd h1
    obtain ⟨v, l, ty', e2, hty', hfit', h2⟩ := zsk h2
    obtain ⟨gx, lx⟩ := zzgc e2.symm
    simp only [] at e1 hfty hty'
    rw [hfty] at hty'; cases hty'
    rcases yat.1 hf with rfl | hf
    ·obtain ⟨p1, _⟩ := zi8 hfkd
     obtain ⟨v', g1, _⟩ := zlf (P := P) (w := w) hT hcs (t := f.type) (off := f.offset) (v := v) (by unfold zkt; rw [hfty, zad, p1, cond_false, e1, zbe]; exact gx)
     refine ⟨v', g1, ?_⟩
     rcases znw (hT.facts hfty) hfkd with hu | hu | ⟨kk, hu⟩
     ·exact zid hu (.inr (.inr rfl))
     ·exact zid hu (.inr (.inl rfl))
     ·exact zid hu (.inl ⟨kk, rfl⟩)
    ·rw [lx] at h2
     exact ih (i + 1) h1 h2 f hf
  rw [Sem.run_bind, <- Array.forIn_toList, zla]
  ·rfl
  ·intro f hf
   obtain ⟨v, g1, g2⟩ := key g.toList 0 hfl hx f (by simpa using hf)
   split
   ·simp only [Sem.run_bind, g1, Result.andThen_ok, g2, Sem.run_pure]
   ·rfl
theorem zse (hT : zcm P C) (hH : za3 B N μ H w) (hE : zgx μ e ρ) {t : Nat} {x i : Operand} {ok : Bool} (h : zgl t x i ok C e H = some v) : LOk P μ w ρ ⟨dst, .lookup t x i ok, type, pos, after, guard⟩ v := by
 unfold zgl at h; simp only [zac, zae] at h; obtain ⟨ty, hty, ke, hke, kty, hkty, hkd, ety, hety, m, hm, es, hes, k, hk, hfit, r, hr, h⟩ := h
 have hF := hT.facts hty
 have hKF := hT.facts hkty
 have hEF := hT.facts hety
 have hx := hE _ _ hm
 have hkv := hE _ _ hk
 have hmap : ∃ (rs : Array MapEntry) (es' : List (zab × zab)), znh es es' /\ zd9 (fun p e => zal μ p.1 e.key /\ zal μ p.2 e.val) es' rs.toList /\ ((ρ x = .map none /\ rs = #[]) \/ ∃ b clock, ρ x = .map (some b) /\ w.heap[b]? = some (.map rs clock)) := by
  unfold ztx at hes; split at hes
  ·rename_i b hb
   rw [zjz] at hb; subst hb; rw [zal] at hx; obtain ⟨j, hj, hxv⟩ := hx
   obtain ⟨rs, clock, l', h1, h0, h2⟩ := hH.mapAt hes hj
   exact ⟨rs, l', h0, h2, .inr ⟨_, _, hxv, h1⟩⟩
  ·simp only [zae, zck] at hes
   obtain ⟨htag, hes⟩ := hes
   cases hes; rw [zj5.2.2.1] at htag; subst htag; rw [zal] at hx; exact ⟨#[], [], .inl rfl, .nil, .inl ⟨hx, rfl⟩⟩
 obtain ⟨rs, es', hperm, h1, h2⟩ := hmap
 have h3 := z3n (P := P) (w := w) hT hkty hkd hfit hkv h1 (z3p hperm hr)
 have hu := z1w hF hke
 obtain ⟨z, hz, hzr, _⟩ := hEF.zero (μ := μ)
 have hck := fun b => zn0 (P := P) (w := w) (empty := b) (d := 9998) (kv := ρ i) hT hkty hkd hfit hkv
 cases r with
 | none =>
  cases h; refine ⟨if ok then .tuple #[z, .bool false] else z, ?_, ?_⟩
  ·have h4 := h3
   simp only [execOp, Instr.lookup]; rcases h2 with ⟨h5, rfl⟩ | ⟨b, clock, h5, h6⟩
   ·simp only [Sem.run_bind, za0 hu, Result.andThen_ok, h5, Sem.run_pure, hck, h4, hz]
   ·simp only [Sem.run_bind, za0 hu, Result.andThen_ok, h5, zhp h6 (by simp), Sem.run_pure, hck, h4, hz]
  ·cases ok
   ·exact hzr
   ·rw [cond_true, if_pos rfl, zal]; exact ⟨_, rfl, .cons hzr (.single (by rw [zal]))⟩
 | some u =>
  obtain ⟨j, v', h6, h5⟩ := h3
  cases h; refine ⟨if ok then .tuple #[v', .bool true] else v', ?_, ?_⟩
  ·simp only [execOp, Instr.lookup]
   rcases h2 with ⟨h7, rfl⟩ | ⟨b, clock, h7, h8⟩
   ·simp only [Sem.run_bind, za0 hu, Result.andThen_ok, h7, Sem.run_pure, hck, h6]
   ·simp only [Sem.run_bind, za0 hu, Result.andThen_ok, h7, zhp h8 (by simp), Sem.run_pure, hck, h6]
  ·cases ok
   ·exact h5
   ·rw [cond_true, if_pos rfl, zal]; exact ⟨_, rfl, .cons h5 (.single (by rw [zal]))⟩
theorem zph {s : Sem Value} {v' : Value} (h : s.run P w = .ok v' w) : (do pure (Next.value (<- s)) : Sem Next).run P w = .ok (.value v') w := by
 simp only [Sem.run_bind, h, Result.andThen_ok, Sem.run_pure]
theorem zgi {b : Builtin} {c : Call} (hc : c.callee = .builtin b) : (execOp ρ ⟨dst, .call c, type, pos, after, guard⟩).run P w = (builtin b c.argTypes type (c.args.map fun | .const _ => true | _ => false) (c.args.map ρ)).run P w := by
 simp only [execOp, resolve, hc, Sem.run_bind, Sem.run_pure, Result.andThen_ok, invoke]; rfl
theorem zd9.length {α β : Type} {R : α -> β -> Prop} {l : List α} {m : List β} (h : zd9 R l m) : m.length = l.length := by
 induction h with
 | nil => rfl
 | cons _ _ ih => simp [ih]
theorem z7o (hT : zcm P C) (hH : za3 B N μ H w) (hE : zgx μ e ρ) {c : Call} (hc : c.callee = .builtin .len) (h : zy0 c C e H = some v) : LOk P μ w ρ ⟨dst, .call c, type, pos, after, guard⟩ v := by
 unfold zy0 at h; simp only [zac, zbe] at h; obtain ⟨t, ht, x, hx, ty, hty, a, ha, n, hn, h⟩ := h
 cases h; have hF := hT.facts hty
 have hv := hE _ _ ha
 obtain ⟨D, hD⟩ := hF.und
 have h0 := hF.desc
 unfold zfy at h0; rw [hD] at h0; have ht' : c.argTypes[0]? = some t := by simpa using ht
 have hx' : (c.args.map ρ)[0]? = some (ρ x) := by
  have : c.args[0]? = some x := by simpa using hx
  simp [this]
 refine ⟨.int .i64 n, ?_, by rw [zal]; rfl⟩
 rw [zgi hc]; refine zph ?_
 simp only [Builtin.len_, ht', hx', Sem.run_bind, za0 hD, Result.andThen_ok]; unfold z4f at hn; rw [<- h0] at hn; split at hn
 ·rename_i s hs
  rw [zc5] at hs; subst hs; simp only [zae, zav] at hn; obtain ⟨hb, hn⟩ := hn
  cases hn; rw [zal] at hv; obtain ⟨str, hxv, rfl⟩ := hv
  rw [hxv, zdc]
  cases D <;> simp [zb9.isString, zb9.tag, Nat.beq] at hb
  rfl
 ·split at hn
  ·rename_i s hs
   rw [zc7] at hs; subst hs; simp only [zae, zck] at hn; obtain ⟨hb, hn⟩ := hn
   cases hn; rw [zal] at hv; rcases hv with ⟨j, cap', hj, hxv, _⟩ | ⟨_, k, _, A, _, hxv, _⟩
   rotate_left
   ·rw [hxv, k]
    cases D <;> simp [zb9.tag] at hb
    rfl
   rw [hxv]
   cases D <;> simp [zb9.tag] at hb
   rfl
  ·split at hn
   ·rename_i ar har
    cases hn
    cases D <;> simp [zb9.asArr] at har
    subst har; rfl
   ·split at hn
    ·rename_i b hb
     rw [zjz] at hb; subst hb; simp only [zae, zck, zac, zav] at hn; obtain ⟨hb, l, hl, hn⟩ := hn
     cases hn; rw [zal] at hv; obtain ⟨j, hj, hxv⟩ := hv
     obtain ⟨rs, clock, l', h1, h0, h2⟩ := hH.mapAt hl hj
     rw [hxv]; have h3 := h2.length
     have hlen : l'.length = l.length := by
      rcases h0 with rfl | ⟨p, _⟩
      ·rfl
      ·exact p.length_eq.symm
     rw [hlen] at h3; simp only [yca] at h3
     cases D <;> simp [zb9.tag] at hb
     simp only [Sem.run_bind, zhp h1 (by simp), Result.andThen_ok, h3]
     rfl
    ·simp only [zae, ybr, yac, zck] at hn
     obtain ⟨hb, hn⟩ := hn
     cases hn; rcases hb with ⟨hb, htag⟩ | ⟨hb, htag⟩
     ·rw [zj5.2.1] at htag
      subst htag; rw [zal] at hv; rw [hv]
      cases D <;> simp [zb9.tag] at hb
      rfl
     ·rw [zj5.2.2.1] at htag
      subst htag; rw [zal] at hv; rw [hv]
      cases D <;> simp [zb9.tag] at hb
      rfl
theorem zs5 {c : Call} {p : zab × zab} (hE : zgx μ e ρ) (h : two c e = some p) : ∃ x y, c.args = #[x, y] /\ zal μ p.1 (ρ x) /\ zal μ p.2 (ρ y) := by
 unfold two at h; split at h
 ·rename_i x y hxy
  simp only [zac] at h; obtain ⟨a, ha, b, hb, h⟩ := h
  cases h; refine ⟨x, y, ?_, hE _ _ ha, hE _ _ hb⟩
  rw [<- Array.toList_inj, hxy]
 ·cases h
theorem z7k (hE : zgx μ e ρ) {c : Call} (hc : c.callee = .builtin .max) (h : z7l c C e H = some v) : LOk P μ w ρ ⟨dst, .call c, type, pos, after, guard⟩ v := by
 unfold z7l at h; simp only [zac, zcl] at h; obtain ⟨p, hp, a, ha, b, hb, h⟩ := h
 cases h; obtain ⟨x, y, hxy, h1, h2⟩ := zs5 hE hp
 rw [ha, zal] at h1; rw [hb, zal] at h2; refine ⟨.int a.1 (if b.2 > a.2 then b.2 else a.2), ?_, ?_⟩
 ·rw [zgi hc, hxy]
  refine zph ?_
  simp [Builtin.max_, h1, h2, Builtin.max2]
 ·rw [zal, zak]; simp only [zm1]
theorem z7i (hE : zgx μ e ρ) {c : Call} (hc : c.callee = .builtin .min) (h : z7j c C e H = some v) : LOk P μ w ρ ⟨dst, .call c, type, pos, after, guard⟩ v := by
 unfold z7j at h; simp only [zac, zcl] at h; obtain ⟨p, hp, a, ha, b, hb, h⟩ := h
 cases h; obtain ⟨x, y, hxy, h1, h2⟩ := zs5 hE hp
 rw [ha, zal] at h1; rw [hb, zal] at h2; refine ⟨.int a.1 (if b.2 < a.2 then b.2 else a.2), ?_, ?_⟩
 ·rw [zgi hc, hxy]
  refine zph ?_
  simp [Builtin.min_, h1, h2, Builtin.min2]
 ·rw [zal, zak]; simp only [zm1]
theorem z9n (hT : zcm P C) (hH : za3 B N μ H w) (hE : zgx μ e ρ) {o : Oper} (h : (zbj o.op).f C e H = some v) : LOk P μ w ρ o v := by
 obtain ⟨dst, op, type, pos, after, guard⟩ := o
 cases op
 case move => exact z09 (C := C) (H := H) hE h
 case assign => exact zsf (C := C) (H := H) hE h
 case pick => exact z08 (C := C) (H := H) hE h
 case load => exact z1a (C := C) (H := H) hT hH hE h
 case nilCheck => exact z7h (C := C) (H := H) hE h
 case binOp => exact z7r (C := C) (H := H) hT hE h
 case unOp => exact zzdw (C := C) (H := H) hE h
 case convert => exact z1c (C := C) (H := H) hT hH hE h
 case makeInterface => exact zwe (C := C) (H := H) hT hE h
 case makeFunc => exact z1b (C := C) (H := H) hE h
 case slice => exact zwc (C := C) (H := H) hT hH hE h
 case fieldAddr => exact zlr (C := C) (H := H) hT hE h
 case field => exact zwf (C := C) (H := H) hT hE h
 case indexAddr => exact zlq (C := C) (H := H) hT hE h
 case index => exact zwd (C := C) (H := H) hT hE h
 case extract => exact zpz (C := C) (H := H) hE h
 case build => exact zwg (C := C) (H := H) hT hE h
 case typeAssert => exact zsg (C := C) (H := H) hT hE h
 case lookup => exact zse (C := C) (H := H) hT hH hE h
 case call c =>
  have h : (zfa c c.callee).f C e H = some v := h
  unfold zfa at h; split at h
  ·rename_i b hb
   cases b <;> simp only [zon] at h
   case len => exact z7o (C := C) (H := H) hT hH hE hb h
   case max => exact z7k (C := C) (H := H) hE hb h
   case min => exact z7i (C := C) (H := H) hE hb h
   all_goals cases h
  ·cases h
 all_goals
  have h : ztz C e H = some v := h
  cases h
end
end Go.Am
namespace Go.Am
open Go Go.RowKit
def Mu.ext (μ : Mu) (a : Nat) (i : BI) : Mu := ⟨fun b => if b = a then some i else μ b, μ.pd⟩
theorem Mu.ext_get {μ : Mu} {a b : Nat} {i : BI} : (μ.ext a i) b = if b = a then some i else μ b := rfl
theorem Mu.ext_le {μ : Mu} {a : Nat} {i : BI} (h : μ a = none) : μ.le (μ.ext a i) := by
 refine ⟨?_, rfl⟩
 intro b j hj; rw [Mu.ext_get]; split
 ·rename_i e; subst e; rw [h] at hj; cases hj
 ·exact hj
theorem Mu.ext_same {μ : Mu} {a : Nat} {i : BI} : μ.ext a i a = some i := by simp [Mu.ext]
theorem zb8.mono {μ ν : Mu} (h : μ.lw ν) {n : Nat} {tm : Tm} {tmps : Array Value} (k : zb8 μ n tm tmps) : zb8 ν n tm tmps := ⟨k.1, fun i v hv => (k.2 i v hv).mono h _ _⟩
theorem zqz.mono {μ ν : Mu} (h : μ.lw ν) {l : zk2} {r : Loop} (k : zqz μ l r) : zqz ν l r :=
 ⟨k.state, k.pending, k.fn, k.tm.mono h, k.params, k.assign, k.body, by obtain ⟨i, h1, h2⟩ := k.defers; exact ⟨i, h _ _ h1, h2⟩⟩
theorem zd9.mono {α β : Type} {R S : α -> β -> Prop} (h : ∀ a b, R a b -> S a b) {l : List α} {m : List β} (k : zd9 R l m) : zd9 S l m := by
 induction k with
 | nil => exact .nil
 | cons a _ ih => exact .cons (h _ _ a) ih
theorem zin.mono {μ ν : Mu} (h : μ.lw ν) {d : zod} {e : Deferred} (k : zin μ d e) : zin ν d e := by
 refine ⟨?_⟩
 have := k.rel
 revert this
 cases d.fn with
 | none => rintro ⟨i, h1, h2⟩; exact ⟨i, h _ _ h1, h2⟩
 | some f => rintro ⟨fn, cap, as, h1, h2, h3⟩; exact ⟨fn, cap, as, h1, h2.mono h, za9.mono h _ _ h3⟩
theorem zmh.mono {μ ν : Mu} (h : μ.lw ν) {i : BI} {x : zam} {o : Obj} (k : zmh μ i x o) : zmh ν i x o := by
 cases x with
 | cells c n loose =>
  obtain ⟨cs, elem, fr, h1, h2, h3, h4, h5⟩ := k
  refine ⟨cs, elem, fr, h1, h2, h3, fun j v hv => ?_, h5⟩
  obtain ⟨a, v', c, d⟩ := h4 j v hv
  exact ⟨a, v', c, d.mono h _ _⟩
 | map l => obtain ⟨es, clock, l', h1, h0, h2⟩ := k; exact ⟨es, clock, l', h1, h0, h2.mono fun a b r => ⟨r.1.mono h _ _, r.2.mono h _ _⟩⟩
 | loop l => obtain ⟨r, h1, h2⟩ := k; exact ⟨r, h1, h2.mono h⟩
 | deferred l =>
  obtain ⟨l', h1, h2⟩ := k
  refine ⟨l', h1, ?_⟩
  revert h2
  cases l <;> cases l' <;> intro h2 <;> first | trivial | exact h2.elim | exact zd9.mono (fun a b r => zin.mono h r) h2
 | siter s p => exact k
section
variable {P : Program} {C : Ctx} {B N : Nat} {μ : Mu} {H : zaf} {w : World}
theorem za3.lt (hH : za3 B N μ H w) {a : Nat} {i : BI} (h : μ a = some i) : a < H.next := by
 refine Nat.lt_of_not_le fun hle => ?_
 rw [(hH.fresh a hle).1] at h; cases h
theorem za3.newBlk (hH : za3 B N μ H w) {x : zam} {o : Obj} {i : BI} (hib : i.b = w.heap.size) (hro : i.ro = false) (hx : zmh (μ.ext H.next i) i x o) : za3 B N (μ.ext H.next i) (newBlk H x) (w.alloc o) := by
 have hle : μ.le (μ.ext H.next i) := Mu.ext_le (hH.fresh _ (yal _)).1
 have hget : ∀ a, (Am.newBlk H x).t.get a = if a = H.next then some x else H.t.get a := fun a => Tr.get_set _ _ _ _
 refine ⟨hH.base, ?_, ?_, ?_, ?_, ?_, ?_, ?_, ?_, fun a y t ha => ?_⟩
 ·intro g hg; rw [Mu.ext_get, if_neg (by have := hH.next; have := hH.base; omega)]; exact hH.glob g hg
 ·intro a y j ha hy hj
  rw [hget, if_neg (by have := hH.next; omega)] at hy
  rw [Mu.ext_get, if_neg (by have := hH.next; omega)] at hj
  exact hH.low a y j ha hy hj
 ·have := hH.next; show B <= H.next + 1; omega
 ·have := hH.size; simp; omega
 ·intro a ha
  have ha' : H.next + 1 <= a := ha
  rw [hget, if_neg (by omega)]
  rw [Mu.ext_get, if_neg (by omega)]
  exact hH.fresh a (by omega)
 ·intro a y j hy hj
  rw [hget] at hy; rw [Mu.ext_get] at hj; split at hy
  ·rename_i e; subst e; cases hy
   rw [if_pos rfl] at hj
   cases hj; refine ⟨o, ?_, hx⟩
   rw [hib]; show (w.heap.push o)[w.heap.size]? = some o; simp
  ·rename_i hne
   rw [if_neg hne] at hj; obtain ⟨q, h2, h3⟩ := hH.blk a y j hy hj
   refine ⟨q, ?_, h3.mono hle⟩
   rw [Below.heap_alloc]; exact h2
   exact (yaf.1 h2).1
 ·intro a j ha hj
  rw [Mu.ext_get] at hj; split at hj
  ·cases hj; rw [hib]; exact ⟨hH.size, by simp, hro⟩
  ·have := hH.own a j ha hj; exact ⟨this.1, by simp; omega, this.2.2⟩
 ·intro a b y z j k hy hz hj hk ha hb hjk
  rw [hget] at hy hz; rw [Mu.ext_get] at hj hk; by_cases ea : a = H.next
  ·by_cases eb : b = H.next
   ·rw [ea, eb]
   ·exfalso
    rw [if_pos ea] at hj; rw [if_neg eb] at hk
    cases hj; have := (hH.own b k hb hk).2.1; omega
  ·by_cases eb : b = H.next
   ·exfalso
    rw [if_neg ea] at hj; rw [if_pos eb] at hk
    cases hk; have := (hH.own a j ha hj).2.1; omega
   ·rw [if_neg ea] at hy hj; rw [if_neg eb] at hz hk
    exact hH.inj a b y z j k hy hz hj hk ha hb hjk
 ·obtain ⟨h1, h2, h3⟩ := hH.pnd a y t ha
  have hne : a ≠ H.next := fun e => by rw [e, (hH.fresh _ (yal _)).2] at h2; cases h2
  exact ⟨by rw [Mu.ext_get, if_neg hne]; exact h1, by rw [hget, if_neg hne]; exact h2, h3⟩
theorem za3.drew (hH : za3 B N μ H w) : za3 B N μ H w.drew := ⟨hH.base, hH.glob, hH.low, hH.next, hH.size, hH.fresh, hH.blk, hH.own, hH.inj, hH.pnd⟩
def World.setBlk (w : World) (g : Nat) (o : Obj) : World := { w with heap := w.heap.setIfInBounds g o }
theorem zth (w : World) (g : Nat) (a b : Obj) : World.setBlk (World.setBlk w g a) g b = World.setBlk w g b := by
 unfold World.setBlk; simp
theorem ze8 (w : World) (g k : Nat) (o : Obj) : (World.setBlk w g o).heap[k]? = if k = g /\ g < w.heap.size then some o else w.heap[k]? := by
 unfold World.setBlk; simp only [ybt]; by_cases h : g = k
 ·subst h
  by_cases h2 : g < w.heap.size
  ·simp [h2]
  ·rw [if_pos rfl, if_neg h2, if_neg (fun h => h2 h.2)]; exact (Array.getElem?_eq_none (by omega)).symm
 ·rw [if_neg h, if_neg (fun e => h e.1.symm)]
theorem zj8 {g j : Nat} {cur : Array Value} {t : TypeId} {fz : Nat × Nat} {v : Value} (h : w.heap[g]? = some (.cells cur t fz)) : w.setCell ⟨g, j, none⟩ v = World.setBlk w g (.cells (cur.setIfInBounds j v) t fz) := by
 unfold World.setCell World.setBlk; congr 1
 apply Array.ext_getElem?
 intro k; rw [Array.getElem?_modify, ybt]; by_cases e : g = k
 ·subst e
  have hg := (yaf.1 h).1
  rw [if_pos rfl, if_pos rfl, if_pos hg, h]; rfl
 ·rw [if_neg e, if_neg e]
theorem zg1 {g o : Nat} {t : TypeId} {fz : Nat × Nat} : ∀ (vs : List Value) (i : Nat) (cur : Array Value) (w : World), w.heap[g]? = some (.cells cur t fz) -> (fz.2 <= fz.1 \/ cur.size <= fz.1) →
  o + i + vs.length <= cur.size -> (∀ v ∈ vs, v.oneCell' = true) →
  ∃ cur', cur'.size = cur.size /\ (∀ j : Nat, cur'[j]? = if o + i <= j /\ j < o + i + vs.length then vs[j - (o + i)]? else cur[j]?) ∧
   (storeCells ⟨g, o, none⟩ vs i).run P w = .ok () (World.setBlk w g (.cells cur' t fz)) := by
 intro vs; induction vs with
 | nil =>
  intro i cur w h _ _ _; refine ⟨cur, rfl, fun j => by rw [if_neg (by simp)], ?_⟩
  have : World.setBlk w g (.cells cur t fz) = w := by
   unfold World.setBlk; have : w.heap.setIfInBounds g (.cells cur t fz) = w.heap := by
    apply Array.ext_getElem?
    intro k; rw [ybt]; split
    ·rename_i e; subst e; rw [h]; simp [(yaf.1 h).1]
    ·rfl
   rw [this]
  rw [this]; rfl
 | cons v vs ih =>
  intro i cur w h hfz hlen h1; simp only [yao] at hlen; have hg : g < w.heap.size := (yaf.1 h).1
  have hc : w.cell? ⟨g, o + i, none⟩ = some (cur[o + i]'(by omega)) := by simp [World.cell?, h]
  have hf : w.frozen? ⟨g, o + i, none⟩ = false := by
   simp only [World.frozen?, h]; rcases hfz with hfz | hfz
   ·simp; omega
   ·simp; omega
  have hst : (store (Addr.add ⟨g, o, none⟩ i) v).run P w = .ok () (World.setBlk w g (.cells (cur.setIfInBounds (o + i) v) t fz)) := by
   rw [zkh, run_store P w _ _ _ (h1 v (by simp)), hc]
   simp only [hf]; rw [<- zj8 h]; rfl
  obtain ⟨cur', hs, hj, hr⟩ := ih (i + 1) (cur.setIfInBounds (o + i) v) (World.setBlk w g (.cells (cur.setIfInBounds (o + i) v) t fz)) (by rw [ze8, if_pos ⟨rfl, hg⟩]) (by simpa using hfz) (by simp; omega) (fun u hu => h1 u (by simp [hu]))
  refine ⟨cur', by simpa using hs, fun j => ?_, ?_⟩
  ·rw [hj, ybt]
   by_cases e : j = o + i
   ·subst e
    rw [if_neg (by omega), if_pos rfl, if_pos (by omega), if_pos (by simp)]
    simp
   ·by_cases e2 : o + (i + 1) <= j /\ j < o + (i + 1) + vs.length
    ·rw [if_pos e2, if_pos (by simp; omega)]
     rw [show j - (o + i) = (j - (o + (i + 1))) + 1 by omega]; simp
    ·rw [if_neg e2, if_neg (by omega), if_neg (by simp; omega)]
  ·rw [storeCells]
   simp only [Sem.run_bind, hst, Result.andThen_ok, hr, zth]
theorem za3.upd (hH : za3 B N μ H w) {a : Nat} {x x' : zam} {i : BI} {o' : Obj} (hx : H.t.get a = some x) (hi : μ a = some i) (ha : B <= a) (hb : zmh μ i x' o') : za3 B N μ (setBlk H a x') (World.setBlk w i.b o') := by
 have hget : ∀ b, (Am.setBlk H a x').t.get b = if b = a then some x' else H.t.get b := fun b => Tr.get_set _ _ _ _
 have hlt := (hH.own a i ha hi).2.1
 refine ⟨hH.base, hH.glob, ?_, hH.next, ?_, ?_, ?_, ?_, ?_, fun b y t hb => ?_⟩
 ·intro b y j hb hy hj; rw [hget, if_neg (by omega)] at hy; exact hH.low b y j hb hy hj
 ·have := hH.size; simpa [World.setBlk] using this
 ·intro b hb
  have hb' : H.next <= b := hb
  have := hH.lt hi
  rw [hget, if_neg (by omega)]
  exact hH.fresh b hb'
 ·intro b y j hy h1
  rw [hget] at hy; split at hy
  ·rename_i e; subst e; cases hy
   rw [hi] at h1; cases h1; exact ⟨o', by rw [ze8, if_pos ⟨rfl, hlt⟩], hb⟩
  ·rename_i hne
   obtain ⟨q, h2, h3⟩ := hH.blk b y j hy h1
   refine ⟨q, ?_, h3⟩
   rw [ze8, if_neg]
   ·exact h2
   ·rintro ⟨e, _⟩
    by_cases hb : B <= b
    ·exact hne (hH.inj b a y x j i hy hx h1 hi hb ha e)
    ·have h5 := (hH.low b y j (by omega) hy h1).1
     have h6 := (hH.own a i ha hi).1
     omega
 ·intro b j hb hj; have := hH.own b j hb hj; exact ⟨this.1, by simpa [World.setBlk] using this.2.1, this.2.2⟩
 ·intro b c y z j k hy hz hj hk hb hc hjk
  have key : ∀ b y, (Am.setBlk H a x').t.get b = some y -> ∃ y', H.t.get b = some y' := by
   intro b y hy; rw [hget] at hy; split at hy
   ·rename_i e; subst e; exact ⟨x, hx⟩
   ·exact ⟨y, hy⟩
  obtain ⟨y', hy'⟩ := key b y hy
  obtain ⟨z', hz'⟩ := key c z hz
  exact hH.inj b c y' z' j k hy' hz' hj hk hb hc hjk
 ·obtain ⟨h1, h2, h3⟩ := hH.pnd b y t hb
  have hne : b ≠ a := fun e => by rw [e, hi] at h1; cases h1
  exact ⟨h1, by rw [hget, if_neg hne]; exact h2, h3⟩
theorem zci {g : Nat} {o : Obj} (h : N <= g) : Below N w (World.setBlk w g o) :=
 ⟨rfl, rfl, rfl, by simp [World.setBlk], fun k hk => by rw [ze8, if_neg (by omega)]⟩
theorem za9.one {l : List zab} : ∀ {vs : List Value}, za9 μ l vs -> (∀ a ∈ l, a.one = true) -> ∀ v ∈ vs, v.oneCell' = true := by
 induction l with
 | nil => intro vs h _ v hv; rw [za9] at h; subst h; cases hv
 | cons a l ih =>
  intro vs h k v hv; rw [za9] at h; obtain ⟨u, r, rfl, h1, h2⟩ := h
  rcases yat.1 hv with rfl | hv
  ·exact h1.one (k a (by simp))
  ·exact ih h2 (fun b hb => k b (by simp [hb])) v hv
theorem zmh.write {i : BI} {c : Tr zab} {n : Nat} {loose : Option Lo} {cs cs' : Array Value} {elem : TypeId} {fr : Nat × Nat} (h : zmh μ i (.cells c n loose) (.cells cs elem fr)) {l : List zab} {vs : List Value} (hl : za9 μ l vs)
  {off : Nat} (hoff : off + l.length <= n) (hs : cs'.size = cs.size) (hj : ∀ j : Nat, cs'[j]? = if off <= j /\ j < off + vs.length then vs[j - off]? else cs[j]?) : zmh μ i (.cells (c.setMany l off) n loose) (.cells cs' elem fr) := by
 obtain ⟨cs0, elem0, fr0, e, h2, h3, h4, h5⟩ := h
 cases e
 have hlen := hl.length
 refine ⟨cs', elem, fr, rfl, by omega, by rw [hs]; exact h3, fun j v hv => ?_, by rw [hs]; exact h5⟩
 rw [Tr.get_setMany] at hv; split at hv
 ·rename_i hjr
  obtain ⟨u, hu, hr⟩ := hl.get hv
  refine ⟨by omega, u, ?_, hr⟩
  rw [hj, if_pos (by omega)]; exact hu
 ·rename_i hjr
  obtain ⟨a, v', d, f⟩ := h4 j v hv
  refine ⟨a, v', ?_, f⟩
  rw [hj, if_neg (by omega)]; exact d
theorem zvh (hbase : B <= C.base) (hH : za3 B N μ H w) {b off : Nat} {l : List zab} {H' : zaf} (h : zd3 C H b off l = some H') {i : BI} (hi : μ b = some i) {vs : List Value} (hl : za9 μ l vs) :
  ∃ w', (storeCells ⟨i.b, off, none⟩ vs).run P w = .ok () w' /\ za3 B N μ H' w' /\ Below N w w' := by
 unfold zd3 at h; simp only [zae, zac, yac, zhm, zav, zda, ybq] at h; obtain ⟨hb, c, hc, ⟨hle, hall⟩, h⟩ := h
 cases h; have hb' : B <= b := by
  have : ¬ b < C.base := fun k => by rw [zcz.2 k] at hb; cases hb
  omega
 have hx := zcs hc
 obtain ⟨o, h2, h3⟩ := hH.blk _ _ _ hx hi
 have h3' := h3
 obtain ⟨cs, elem, fr, rfl, h4, h5, _, _⟩ := h3
 have hone : ∀ a ∈ l, a.one = true := fun a ha => ybc.1 hall a ha
 have hlen := hl.length
 have hown := hH.own b i hb' hi
 have h5 := h5.resolve_left (by rw [hown.2.2]; simp)
 obtain ⟨cs', hs, hj, hr⟩ := zg1 (P := P) (o := off) vs 0 cs w h2 h5 (by omega) (hl.one hone)
 exact ⟨_, hr, hH.upd hx hi hb' (h3'.write hl hle hs (by simpa using hj)), zci hown.1⟩
theorem za9.rel_one {l : List zab} {vs : List Value} (hl : za9 μ l vs) {i : BI} (ht : i.tight = true) {elem : TypeId} : zmh μ i (.cells (Tr.ofList l) (zbp l) none) (.cells vs.toArray elem (0, 0)) := by
 have hlen := hl.length
 refine ⟨vs.toArray, elem, (0, 0), rfl, by rw [zav]; simp [hlen], .inr (.inl (yal _)), fun j v hv => ?_, ht⟩
 rw [Tr.get_ofList] at hv; obtain ⟨u, hu, hr⟩ := hl.get hv
 refine ⟨by rw [zav]; exact (yad.1 hv).1, u, by simpa using hu, hr⟩
theorem za3.newTight (hH : za3 B N μ H w) {l : List zab} {vs : List Value} (hl : za9 μ l vs) (elem : TypeId) :
  za3 B N (μ.ext H.next ⟨w.heap.size, true, 0, 0, false⟩) (zaw H l none) (w.alloc (.cells vs.toArray elem)) :=
 hH.newBlk rfl rfl ((za9.mono (Mu.ext_le (hH.fresh _ (yal _)).1).f _ _ hl).rel_one rfl)
theorem za3.newTag (hH : za3 B N μ H w) {l : List zab} {vs : List Value} (hl : za9 μ l vs) (elem : TypeId) :
  za3 B N (μ.ext H.next ⟨w.heap.size, false, 1, vs.length, false⟩) (zaw H l (some (.ty elem))) (w.alloc (.cells vs.toArray elem)) := by
 have h := (za9.mono (Mu.ext_le (hH.fresh _ (yal _)).1 (i := ⟨w.heap.size, false, 1, vs.length, false⟩)).f _ _ hl)
 have hn := hl.length
 refine hH.newBlk rfl rfl ⟨vs.toArray, elem, (0, 0), rfl, by rw [zav]; simp [hn], .inr (.inl (yal _)), fun j v hv => ?_, rfl, rfl, by simp, fun t e => by cases e; rfl⟩
 rw [Tr.get_ofList] at hv; obtain ⟨u, hu, hr⟩ := h.get hv
 exact ⟨by rw [zav]; exact (yad.1 hv).1, u, by simpa using hu, hr⟩
theorem zby (h : N <= w.heap.size) (o : Obj) : Below N w (w.alloc o) := (Below.refl N w).alloc h o
def Mu.wait (μ : Mu) (a : Nat) (x : zam × Nat × Nat) : Mu := ⟨μ.m, fun b => if b = a then some x else μ.pd b⟩
def Mu.land (μ : Mu) (a : Nat) (i : BI) : Mu := ⟨fun b => if b = a then some i else μ b, fun b => if b = a then none else μ.pd b⟩
theorem za3.early (hH : za3 B N μ H w) {x : zam} {t : Nat × Nat} : za3 B N (μ.wait H.next (x, t)) (Am.newBlk H x) w := by
 have hget : ∀ a, (Am.newBlk H x).t.get a = if a = H.next then some x else H.t.get a := fun a => Tr.get_set _ _ _ _
 have hn := hH.fresh _ (yal _)
 have gone : ∀ a i, μ a = some i -> a ≠ H.next := fun a i h e => by rw [e, hn.1] at h; cases h
 have bm : ∀ i y o, zmh μ i y o -> zmh (μ.wait H.next (x, t)) i y o := fun i y o h => zmh.mono (μ := μ) (ν := μ.wait H.next (x, t)) (fun _ _ h => h) h
 refine ⟨hH.base, hH.glob, fun a y i ha hy hi => ?_, by have := hH.next; show B <= H.next + 1; omega, hH.size, fun a ha => ?_, fun a y i hy hi => ?_, hH.own, fun a b y z i j hy hz hi hj => ?_, fun a y s ha => ?_⟩
 ·rw [hget, if_neg (gone a i hi)] at hy; exact hH.low a y i ha hy hi
 ·have ha' : H.next + 1 <= a := ha
  have := hH.fresh a (by omega)
  exact ⟨this.1, by rw [hget, if_neg (by omega)]; exact this.2⟩
 ·rw [hget, if_neg (gone a i hi)] at hy
  obtain ⟨o, h1, h2⟩ := hH.blk a y i hy hi
  exact ⟨o, h1, bm _ _ _ h2⟩
 ·rw [hget, if_neg (gone a i hi)] at hy
  rw [hget, if_neg (gone b j hj)] at hz
  exact hH.inj a b y z i j hy hz hi hj
 ·change (if a = H.next then some (x, t) else μ.pd a) = some (y, s) at ha
  split at ha
  ·rename_i e; cases ha; subst e
   exact ⟨hn.1, by rw [hget, if_pos rfl], hH.next⟩
  ·rename_i e
   obtain ⟨h1, h2, h3⟩ := hH.pnd a y s ha
   exact ⟨h1, by rw [hget, if_neg e]; exact h2, h3⟩
theorem za3.late (hH : za3 B N μ H w) {a : Nat} {x : zam} {t : Nat × Nat} {o : Obj} {i : BI} (hp : μ.pd a = some (x, t)) (hib : i.b = w.heap.size) (hro : i.ro = false) (hx : zmh (μ.land a i) i x o) : za3 B N (μ.land a i) H (w.alloc o) := by
 obtain ⟨p1, p2, p3⟩ := hH.pnd a x t hp
 have lg : ∀ b, (μ.land a i) b = if b = a then some i else μ b := fun _ => rfl
 have hle : μ.lw (μ.land a i) := fun b j hj => by
  rw [lg, if_neg fun e => by rw [e, p1] at hj; cases hj]; exact hj
 have hbase := hH.base
 refine ⟨hH.base, fun g hg => by rw [lg, if_neg (by omega)]; exact hH.glob g hg, fun b y j hb hy hj => ?_, hH.next, by have := hH.size; simp; omega, fun b hb => ?_, fun b y j hy hj => ?_, fun b j hb hj => ?_, fun b c y z j k hy hz hj hk hb hc hjk => ?_, fun b y s hb => ?_⟩
 ·rw [lg, if_neg (by omega)] at hj; exact hH.low b y j hb hy hj
 ·have := hH.fresh b hb
  rw [lg, if_neg fun e => by rw [e, p2] at this; cases this.2]
  exact this
 ·rw [lg] at hj
  split at hj
  ·rename_i e; subst e; cases hj
   rw [p2] at hy; cases hy; exact ⟨o, by rw [hib]; show (w.heap.push o)[w.heap.size]? = some o; simp, hx⟩
  ·obtain ⟨q, h2, h3⟩ := hH.blk b y j hy hj
   refine ⟨q, ?_, h3.mono hle⟩
   rw [Below.heap_alloc]; exact h2
   exact (yaf.1 h2).1
 ·rw [lg] at hj
  split at hj
  ·cases hj; rw [hib]; exact ⟨hH.size, by simp, hro⟩
  ·have := hH.own b j hb hj; exact ⟨this.1, by simp; omega, this.2.2⟩
 ·rw [lg] at hj hk
  by_cases eb : b = a
  ·by_cases ec : c = a
   ·rw [eb, ec]
   ·exfalso
    rw [if_pos eb] at hj; rw [if_neg ec] at hk
    cases hj; have := (hH.own c k hc hk).2.1; omega
  ·by_cases ec : c = a
   ·exfalso
    rw [if_neg eb] at hj; rw [if_pos ec] at hk
    cases hk; have := (hH.own b j hb hj).2.1; omega
   ·rw [if_neg eb] at hj; rw [if_neg ec] at hk
    exact hH.inj b c y z j k hy hz hj hk hb hc hjk
 ·change (if b = a then none else μ.pd b) = some (y, s) at hb
  split at hb
  ·cases hb
  ·rename_i e
   obtain ⟨h1, h2, h3⟩ := hH.pnd b y s hb
   exact ⟨by rw [lg, if_neg e]; exact h1, h2, h3⟩
theorem za3.ext_le (hH : za3 B N μ H w) {i : BI} : μ.le (μ.ext H.next i) := Mu.ext_le (hH.fresh _ (yal _)).1
end
end Go.Am
namespace Go.Am
open Go Go.RowKit
section
variable {P : Program} {C : Ctx} {B N : Nat} {μ : Mu} {H H' : zaf} {w : World}
variable {e : Env} {ρ : Operand -> Value} {dst : Option Tmp} {type : TypeId} {pos : String} {after : Array Edge} {guard : Option (Nat × Bool)} {v : zab}
def zz3 (P : Program) (B N : Nat) (μ : Mu) (w : World) (ρ : Operand -> Value) (o : Oper) (v : zab) (H' : zaf) : Prop :=
 ∃ v' w' μ', ((execOp ρ o).run P w = .ok (.value v') w' \/ ((execOp ρ o).run P w = .ok .skip w' /\ v' = undef)) /\ μ.le μ' /\ za3 B N μ' H' w' /\ Below N w w' /\ zal μ' v v'
theorem LOk.hv (hH : za3 B N μ H w) {o : Oper} (h : LOk P μ w ρ o v) : zz3 P B N μ w ρ o v H := by
 obtain ⟨v', h1, h2⟩ := h
 exact ⟨v', w, μ, .inl h1, μ.le_refl, hH, Below.refl _ _, h2⟩
theorem zdp {x : Option (zab × zaf)} {v : zab} {H' : zaf} (h : ztk x = .val v H') : x = some (v, H') := by
 unfold ztk at h; split at h
 ·injection h with h1 h2; rw [<- h1, <- h2]
 ·cases h
theorem zdy {elem : TypeId} {cs : Array Value} : (newRow elem cs).run P w = .ok ⟨w.heap.size, 0, none⟩ (w.alloc (.cells cs elem)) := by
 simp [newRow]
theorem zjk {elem : TypeId} {v : Value} : (newVar elem v).run P w = .ok ⟨w.heap.size, 0, none⟩ (w.alloc (.cells v.cells elem)) := zdy
theorem zva : zal μ zba undef := by rw [zba, zal]; exact ⟨_, rfl, .nil⟩
theorem z2h {t : Nat} {e : Lo} (h : zhn C t = some e) : e = .ty t := by
 unfold zhn at h; rw [zak] at h; split at h
 ·cases h; rfl
 ·split at h <;> cases h; rfl
theorem za3.newVar (hH : za3 B N μ H w) {l : List zab} {vs : List Value} (hl : za9 μ l vs) {t : Nat} :
  ∃ i : BI, i.b = w.heap.size /\ za3 B N (μ.ext H.next i) (zaw H l (zhn C t)) (w.alloc (.cells vs.toArray t)) := by
 cases ht : zhn C t with
 | none => exact ⟨_, rfl, hH.newTight hl t⟩
 | some e =>
  have := z2h ht
  subst this; exact ⟨_, rfl, hH.newTag hl t⟩
theorem z8c (hT : zcm P C) (hH : za3 B N μ H w) {t : Nat} (h : zny t C e H = .val v H') : zz3 P B N μ w ρ ⟨dst, .alloc t, type, pos, after, guard⟩ v H' := by
 have h := zdp h
 simp only [zac] at h; obtain ⟨ty, hty, h⟩ := h
 cases h; obtain ⟨z, hz, _, hzl⟩ := (hT.facts hty).zero (μ := μ)
 obtain ⟨i, hi, hn⟩ := hH.newVar (C := C) (t := t) hzl
 refine ⟨.pointer (some ⟨w.heap.size, 0, none⟩), w.alloc (.cells z.cells t), _, .inl ?_, hH.ext_le, by rwa [Array.toArray_toList] at hn, zby hH.size _, by rw [zal]; exact ⟨_, Mu.ext_same, by rw [hi]⟩⟩
 simp only [execOp, Instr.alloc, Sem.run_bind, hz, Result.andThen_ok, zjk, Sem.run_pure]
theorem zzf3 (hH : za3 B N μ H w) (hE : zgx μ e ρ) {t : Nat} {x : Operand} (h : zzb7 t x C e H = .val v H') : zz3 P B N μ w ρ ⟨dst, .box t x, type, pos, after, guard⟩ v H' := by
 have h := zdp h
 simp only [zac] at h; obtain ⟨a, ha, h⟩ := h
 cases h; obtain ⟨i, hi, hn⟩ := hH.newVar (C := C) (t := t) (zl3 (hE _ _ ha))
 refine ⟨.pointer (some ⟨w.heap.size, 0, none⟩), w.alloc (.cells (ρ x).cells t), _, .inl ?_, hH.ext_le, by rwa [Array.toArray_toList] at hn, zby hH.size _, by rw [zal]; exact ⟨_, Mu.ext_same, by rw [hi]⟩⟩
 simp only [execOp, Instr.box, Sem.run_bind, zjk, Result.andThen_ok, Sem.run_pure]
theorem zpj (z : List zab) : ∀ n, (zut z n).length = n * z.length := by
 intro n; induction n with
 | zero => simp [zut]
 | succ n ih => rw [zut, zbx, yah, ih, yap]; omega
theorem zza3 (z : List zab) : ∀ (n j : Nat), j < n * z.length -> (zut z n)[j]? = z[j % z.length]? := by
 intro n; induction n with
 | zero => intro j hj; simp at hj
 | succ n ih =>
  intro j hj; rw [zut, zbx]; by_cases h : j < z.length
  ·rw [ybp h, Nat.mod_eq_of_lt h]
  ·rw [yaq (by omega), ih _ (by rw [yap] at hj; omega)]
   congr 1
   rw [Nat.mod_eq_sub_mod (by omega : z.length <= j)]
theorem zyg {z : List zab} {zv : Array Value} (hz : za9 μ z zv.toList) (n : Nat) : za9 μ (zut z n) ((Array.range (n * z.length)).map (zv[· % zv.size]!)).toList := by
 have hl := hz.length
 simp only [yca] at hl; refine za9.mk (by simp [zpj]) fun j a v ha hv => ?_
 have hj : j < n * z.length := by rw [<- zpj]; exact (yad.1 ha).1
 rw [zza3 z n j hj] at ha; obtain ⟨u, hu, hr⟩ := hz.get ha
 have hpos : 0 < z.length := by
  rcases Nat.eq_zero_or_pos z.length with h0 | h0
  ·rw [h0] at hj; simp at hj
  ·exact h0
 have hm : j % z.length < z.length := ybz _ hpos
 simp only [Array.toList_map, yav, Array.toList_range, List.getElem?_range hj, Option.map_some, Option.some.injEq] at hv; rw [<- hv, hl]; have : zv[j % z.length]! = u := by
  have h1 : zv[j % z.length]? = some u := by simpa using hu
  rw [getElem!_def, h1]
 rw [this]; exact hr
theorem zrf (hT : zcm P C) (hH : za3 B N μ H w) (hE : zgx μ e ρ) {t len : Nat} {parts : Array (Nat × Operand)} (h : zdt t len parts C e H = .val v H') : zz3 P B N μ w ρ ⟨dst, .buildSlice t len parts, type, pos, after, guard⟩ v H' := by
 have h := zdp h
 simp only [zac, zae, yac, zcz, zck, zav] at h; obtain ⟨ty, hty, el, hel, et, het, ⟨hlt, hzs⟩, ps, hps, l, hl, h⟩ := h
 cases h; have hF := hT.facts het
 obtain ⟨z, hz, _, hzl⟩ := hF.zero (μ := μ)
 have hzlen := hzl.length
 simp only [yca] at hzlen; have hrel := zyg hzl len
 rw [hzs] at hrel; obtain ⟨out, ho, hr⟩ := zor (hE.parts hps) hrel hl
 have hol : out.size = l.length := by simpa using hr.length
 refine ⟨.slice (some ⟨w.heap.size, 0, none⟩) len len, w.alloc (.cells out el), _, .inl ?_, hH.ext_le, by have := hH.newTight hr el; rwa [Array.toArray_toList] at this, zby hH.size _, ?_⟩
 ·have h1 : ¬ len * et.size > 2 ^ 24 := by omega
  by_cases h0 : len * et.size = 0
  ·have harr : ((Array.range (len * et.size)).map ((#[] : Array Value)[· % (#[] : Array Value).size]!)) = (Array.range (len * et.size)).map (z.cells[· % z.cells.size]!) := by rw [h0]; simp
   simp only [execOp, Instr.buildSlice, Sem.run_bind, za0 (zcj (hT.facts hty) hel), Result.andThen_ok, hF.size, if_neg h1, if_pos h0, Sem.run_pure, harr, Array.toList_map, ho, zdy]
  ·simp only [execOp, Instr.buildSlice, Sem.run_bind, za0 (zcj (hT.facts hty) hel), Result.andThen_ok, hF.size, if_neg h1, if_neg h0, Sem.run_pure, hz, Array.toList_map, ho, zdy]
 ·rw [zal]; exact .inl ⟨_, len, Mu.ext_same, rfl, yal _, fun _ => rfl, fun h => by cases h⟩
theorem zzcb (hT : zcm P C) (hE : zgx μ e ρ) (o : Oper) (hf : zd4 o.op = true) (hlo : zzbl C o.op = none) (h : (aop o.op).f C e H = .val v H') :
  ∃ l vs v' elem, H' = zaw H l none /\ (execOp ρ o).run P w = .ok (.value v') (w.alloc (.cells vs elem)) /\ za9 μ l vs.toList /\ ∀ (ν : Mu) (i : BI), ν H.next = some i -> i.b = w.heap.size -> i.tight = true -> zal ν v v' := by
 obtain ⟨dst, op, type, pos, after, guard⟩ := o
 cases op <;> first | (simp [zd4] at hf; done) | skip
 case alloc t =>
  have h := zdp (show zny t C e H = .val v H' from h)
  rw [show zhn C t = none from hlo] at h; simp only [zac] at h; obtain ⟨ty, hty, h⟩ := h
  cases h; obtain ⟨z, hz, _, hzl⟩ := (hT.facts hty).zero (μ := μ)
  refine ⟨_, z.cells, .pointer (some ⟨w.heap.size, 0, none⟩), t, rfl, ?_, hzl, fun ν i h1 h2 _ => by rw [zal]; exact ⟨i, h1, by rw [h2]⟩⟩
  simp only [execOp, Instr.alloc, Sem.run_bind, hz, Result.andThen_ok, zjk, Sem.run_pure]
 case box t x =>
  have h := zdp (show zzb7 t x C e H = .val v H' from h)
  rw [show zhn C t = none from hlo] at h; simp only [zac] at h; obtain ⟨a, ha, h⟩ := h
  cases h; refine ⟨_, (ρ x).cells, .pointer (some ⟨w.heap.size, 0, none⟩), t, rfl, ?_, zl3 (hE _ _ ha), fun ν i h1 h2 _ => by rw [zal]; exact ⟨i, h1, by rw [h2]⟩⟩
  simp only [execOp, Instr.box, Sem.run_bind, zjk, Result.andThen_ok, Sem.run_pure]
 case buildSlice t len parts =>
  have h := zdp (show zdt t len parts C e H = .val v H' from h)
  simp only [zac, zae, yac, zcz, zck, zav] at h; obtain ⟨ty, hty, el, hel, et, het, ⟨hlt, hzs⟩, ps, hps, l, hl, h⟩ := h
  cases h; have hF := hT.facts het
  obtain ⟨z, hz, _, hzl⟩ := hF.zero (μ := μ)
  have hrel := zyg hzl len
  rw [hzs] at hrel; obtain ⟨out, ho, hr⟩ := zor (hE.parts hps) hrel hl
  refine ⟨_, out, .slice (some ⟨w.heap.size, 0, none⟩) len len, el, rfl, ?_, hr, fun ν i h1 h2 h3 => by rw [zal]; exact .inl ⟨i, len, h1, by rw [h2], yal _, fun _ => rfl, fun h => by rw [h3] at h; cases h⟩⟩
  have h1 : ¬ len * et.size > 2 ^ 24 := by omega
  by_cases h0 : len * et.size = 0
  ·have harr : ((Array.range (len * et.size)).map ((#[] : Array Value)[· % (#[] : Array Value).size]!)) = (Array.range (len * et.size)).map (z.cells[· % z.cells.size]!) := by rw [h0]; simp
   simp only [execOp, Instr.buildSlice, Sem.run_bind, za0 (zcj (hT.facts hty) hel), Result.andThen_ok, hF.size, if_neg h1, if_pos h0, Sem.run_pure, harr, Array.toList_map, ho, zdy]
  ·simp only [execOp, Instr.buildSlice, Sem.run_bind, za0 (zcj (hT.facts hty) hel), Result.andThen_ok, hF.size, if_neg h1, if_neg h0, Sem.run_pure, hz, Array.toList_map, ho, zdy]
theorem z3k {o : Op} (hf : zd4 o = true) (hlo : zzbl C o = none) (h : (aop o).f C e H = .val v H') : ∃ l, H' = zaw H l none := by
 cases o <;> first | (simp [zd4] at hf; done) | skip
 case alloc t =>
  have h := zdp (show zny t C e H = .val v H' from h)
  rw [show zhn C t = none from hlo] at h; simp only [zac] at h; obtain ⟨ty, hty, h⟩ := h
  cases h; exact ⟨_, rfl⟩
 case box t x =>
  have h := zdp (show zzb7 t x C e H = .val v H' from h)
  rw [show zhn C t = none from hlo] at h; simp only [zac] at h; obtain ⟨a, ha, h⟩ := h
  cases h; exact ⟨_, rfl⟩
 case buildSlice t len parts =>
  have h := zdp (show zdt t len parts C e H = .val v H' from h)
  simp only [zac, zae] at h; obtain ⟨ty, hty, el, hel, et, het, _, ps, hps, l, hl, h⟩ := h
  cases h; exact ⟨_, rfl⟩
theorem zy7 {e' : Env} (h : ∀ x, ev x e = ev x e') {o : Op} (hf : zd4 o = true) (H : zaf) : (aop o).f C e H = (aop o).f C e' H := by
 cases o <;> first | (simp [zd4] at hf; done) | rfl | skip
 case box t x => show zzb7 t x C e H = zzb7 t x C e' H; simp only [zzb7, h]
 case buildSlice t len ps => show zdt t len ps C e H = zdt t len ps C e' H; simp only [zdt, evp, h]
theorem zwl (hT : zcm P C) (hbase : B <= C.base) (hH : za3 B N μ H w) (hE : zgx μ e ρ) {t : Nat} {a x : Operand} (h : zwm t a x C e H = .val v H') : zz3 P B N μ w ρ ⟨dst, .store t a x, type, pos, after, guard⟩ v H' := by
 have h := zdp h
 simp only [zac, zae, zck, zav, zff] at h; obtain ⟨ty, hty, av, ha, p, rfl, xv, hx, hs, H1, h1, h⟩ := h
 cases h; have hF := hT.facts hty
 have hp := hE _ _ ha
 rw [zal] at hp; obtain ⟨i, hi, hpv⟩ := hp
 have hc := zl3 (hE _ _ hx)
 obtain ⟨w', h2, h3, h4⟩ := zvh (P := P) hbase hH h1 hi hc
 have hcl := hc.length
 simp only [yca] at hcl; refine ⟨undef, w', μ, .inr ⟨?_, rfl⟩, μ.le_refl, h3, h4, zva⟩
 have h5 : ¬ (ρ x).cells.size ≠ ty.size := by omega
 simp only [execOp, Instr.storeAt, hpv, Instr.sureAddr, Sem.run_bind, Sem.run_pure, Result.andThen_ok, storeVar, hF.size, Sem.run_ite, if_neg h5, h2]
theorem zy5 (hH : za3 B N μ H w) {t : Nat} {r : Option Operand} (h : zlt r C e H = .val v H') : zz3 P B N μ w ρ ⟨dst, .makeMap t r, type, pos, after, guard⟩ v H' := by
 unfold zlt at h; split at h
 ·injection h with h1 h2
  subst h1 h2
  refine ⟨.map (some w.heap.size), w.alloc (.map #[] 0), _, .inl ?_, hH.ext_le, hH.newBlk (i := ⟨w.heap.size, true, 0, 0, false⟩) rfl rfl ⟨#[], 0, [], rfl, .inl rfl, .nil⟩, zby hH.size _, by rw [zal]; exact ⟨_, Mu.ext_same, rfl⟩⟩
  simp [execOp, Instr.makeMap]
 ·cases h
theorem zt7 (hT : zcm P C) (hH : za3 B N μ H w) (hE : zgx μ e ρ) {t : Nat} {l c : Operand} (h : zm3 t l c C e H = .val v H') : zz3 P B N μ w ρ ⟨dst, .makeSlice t l c, type, pos, after, guard⟩ v H' := by
 have h := zdp h
 simp only [zac, zae, yac, zhm, zcz, zck, zav, zjy] at h; obtain ⟨ty, hty, el, hel, et, het, lv', hl, ln, ⟨k1, rfl⟩, cv, hc, cn, ⟨k2, rfl⟩, ⟨⟨⟨h1, h2⟩, h3⟩, h4⟩, h⟩ := h
 cases h; have hF := hT.facts het
 obtain ⟨z, hz, _, hzl⟩ := hF.zero (μ := μ)
 have hrel := zyg hzl cn
 rw [h4] at hrel; have hlv := hE _ _ hl
 rw [zal] at hlv; have hcv := hE _ _ hc
 rw [zal] at hcv; obtain ⟨inf, hinf, hsz, hby, _⟩ := hF.info
 refine ⟨.slice (some ⟨w.heap.size, 0, none⟩) ln cn, w.alloc (.cells ((Array.range (cn * et.size)).map (z.cells[· % z.cells.size]!)) el), _, .inl ?_, hH.ext_le, by have := hH.newTight hrel el; rwa [Array.toArray_toList] at this, zby hH.size _, ?_⟩
 ·have hw1 : IntKind.i64.wrap (ln : Int) = ln := ze3 (by simp [kHi]; omega)
  have hw2 : IntKind.i64.wrap (cn : Int) = cn := ze3 (by simp [kHi]; omega)
  have hb : (et.bytes : Int) * (cn : Int) = ((cn * et.bytes : Nat) : Int) := by rw [Int.mul_comm]; simp
  have hc1 : (((cn : Int) < 0 || decide ((et.bytes : Int) * (cn : Int) > 2 ^ 48)) || decide ((ln : Int) < 0) || decide ((ln : Int) > (cn : Int))) = false := by
   rw [hb]; simp; omega
  have hnn : ¬ ((((cn : Int) < 0 || decide ((et.bytes : Int) * (cn : Int) > 2 ^ 48)) || decide ((ln : Int) < 0) || decide ((ln : Int) > (cn : Int))) = true) := by rw [hc1]; simp
  by_cases h0 : cn * et.size = 0
  ·have harr : ((Array.range (cn * et.size)).map ((#[] : Array Value)[· % (#[] : Array Value).size]!)) = (Array.range (cn * et.size)).map (z.cells[· % z.cells.size]!) := by rw [h0]; simp
   simp only [execOp, Instr.makeSlice, Sem.run_bind, za0 (zcj (hT.facts hty) hel), Result.andThen_ok, hlv, hcv, asInt, asIntOf, Sem.run_pure, zh1 hinf, hby, hw1, hw2, if_neg hnn, run_askRoom, hF.size, Int.toNat_natCast, if_pos h0, harr, zdy]
  ·simp only [execOp, Instr.makeSlice, Sem.run_bind, za0 (zcj (hT.facts hty) hel), Result.andThen_ok, hlv, hcv, asInt, asIntOf, Sem.run_pure, zh1 hinf, hby, hw1, hw2, if_neg hnn, run_askRoom, hF.size, Int.toNat_natCast, if_neg h0, hz, zdy]
 ·rw [zal]; exact .inl ⟨_, cn, Mu.ext_same, rfl, yal _, fun _ => rfl, fun h => by cases h⟩
end
end Go.Am
