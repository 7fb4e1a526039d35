/- The operations that change no memory: what the abstract machine computes, the model computes. -/
import Derived.Below
import Derived.Laws.BytesString
import Derived.Lib.Strings
import Derived.Test.YtbgilkcahebbfaaGreatDoorB01
set_option linter.all false
noncomputable section
namespace Go.Am
open Go
def zhp (μ : Mu) (e : Env) (ρ : Operand -> Value) : Prop := ∀ x v, ev x e = some v -> zan μ v (ρ x)
theorem zhp.many {μ : Mu} {e : Env} {ρ : Operand -> Value} (h : zhp μ e ρ) : ∀ {l : List Operand} {r : List zab}, evs l e = some r -> zbk μ r (l.map ρ) := by
 intro l; induction l with
 | nil => intro r k; unfold evs at k; rw [zg9] at k; cases k; exact .nil
 | cons x l ih =>
  intro r k; unfold evs at k; rw [zch, zad] at k; obtain ⟨a, ha, k⟩ := k
  rw [zad] at k; obtain ⟨b, hb, k⟩ := k
  cases k
  exact .cons (h _ _ ha) (ih hb)
theorem zhp.parts {μ : Mu} {e : Env} {ρ : Operand -> Value} (h : zhp μ e ρ) : ∀ {l : List (Nat × Operand)} {r : List (Nat × zab)}, evp l e = some r →
  zex (fun p q => p.1 = q.1 /\ zan μ p.2 q.2) r (l.map fun x => (x.1, ρ x.2)) := by
 intro l; induction l with
 | nil => intro r k; unfold evp at k; rw [zg9] at k; cases k; exact .nil
 | cons x l ih =>
  intro r k; unfold evp at k; rw [zch, zad] at k; obtain ⟨a, ha, k⟩ := k
  rw [zad] at ha; obtain ⟨a', ha, ha'⟩ := ha
  cases ha'
  rw [zad] at k; obtain ⟨b, hb, k⟩ := k
  cases k
  exact .cons ⟨rfl, h _ _ ha⟩ (ih hb)
def zzc9 (μ : Mu) : Option zab -> Option Value -> Prop
 | none, none => True
 | some a, some v => zan μ a v
 | _, _ => False
theorem zhp.opt {μ : Mu} {e : Env} {ρ : Operand -> Value} (h : zhp μ e ρ) {x : Option Operand} {r : Option zab} (k : evo x e = some r) : zzc9 μ r (x.map ρ) := by
 cases x with
 | none => cases k; trivial
 | some x => unfold evo at k; simp only [] at k; rw [zad] at k; obtain ⟨a, ha, k⟩ := k; cases k; exact h _ _ ha
theorem zll (b off n : Nat) : Addr.add ⟨b, off, none⟩ n = ⟨b, off + n, none⟩ := by
 unfold Addr.add; split
 ·rename_i h; subst h; rfl
 ·rfl
section
variable {P : Program} {C : Ctx} {B N : Nat} {μ : Mu} {H : zaf} {w : World}
theorem zdd {b : Nat} {p : Tr zab × Nat × Option Lo} (h : zaq H b = some p) : H.t.get b = some (.cells p.1 p.2.1 p.2.2) := by
 unfold zaq at h; rw [zad] at h; obtain ⟨x, hx, h⟩ := h
 cases x <;> simp [zak.asCells] at h
 subst h; exact hx
theorem zbf.cellAt (hH : zbf B N μ H w) {b : Nat} {p : Tr zab × Nat × Option Lo} (h : zaq H b = some p) {i : BI} (hi : μ b = some i) {j : Nat} {v : zab} (hv : p.1.get j = some v) :
  ∃ v', w.cell? ⟨i.b, j, none⟩ = some v' /\ zan μ v v' := by
 obtain ⟨o, h2, h3⟩ := hH.blk _ _ _ (zdd h) hi
 obtain ⟨cs, elem, fr, rfl, _, _, h4, _⟩ := h3
 obtain ⟨_, v', h6, h7⟩ := h4 j v hv
 exact ⟨v', by simp [World.cell?, h2, h6], h7⟩
theorem zbf.manyAt (hH : zbf B N μ H w) {b : Nat} {p : Tr zab × Nat × Option Lo} (h : zaq H b = some p) {i : BI} (hi : μ b = some i) {n off : Nat} {l : List zab} (hl : p.1.many n off = some l) :
  ∃ vs : List Value, vs.length = n /\ zbk μ l vs /\ (loadCells ⟨i.b, off, none⟩ n).run P w = .ok vs.toArray w /\ ∀ j, j < n -> w.cell? ⟨i.b, off + j, none⟩ = vs[j]? := by
 obtain ⟨h1, h2⟩ := Tr.many_some _ _ _ _ hl
 have key : ∀ j, j < n -> ∃ v', w.cell? ⟨i.b, off + j, none⟩ = some v' /\ ∃ a, l[j]? = some a /\ zan μ a v' := by
  intro j hj; have h3 := h2 j hj
  cases hlj : l[j]? with
  | none => rw [List.getElem?_eq_none_iff] at hlj; omega
  | some a =>
   rw [hlj] at h3; obtain ⟨v', h4, h5⟩ := hH.cellAt h hi h3
   exact ⟨v', h4, a, rfl, h5⟩
 let f : Nat -> Value := fun j => (w.cell? ⟨i.b, off + j, none⟩).getD undef
 have hf : ∀ j, j < n -> w.cell? ⟨i.b, off + j, none⟩ = some (f j) := by
  intro j hj; obtain ⟨v', h3, _⟩ := key j hj
  simp [f, h3]
 refine ⟨(List.range n).map f, by simp, ?_, ?_, ?_⟩
 ·refine zbk.mk (by simp [h1]) fun j a v ha hv => ?_
  have hj : j < n := by rw [<- h1]; exact (yad.1 ha).1
  obtain ⟨v', h3, a', h4, h5⟩ := key j hj
  rw [ha] at h4; cases h4; rw [yav, List.getElem?_range hj] at hv; have h6 := hf j hj
  rw [h3] at h6; cases h6; simp at hv; rw [<- hv]; exact h5
 ·exact run_loadCells w _ n f fun j hj => by rw [zll]; exact hf j hj
 ·intro j hj; rw [hf j hj, yav, List.getElem?_range hj]; rfl
theorem z3s (hH : zbf B N μ H w) {t : Nat} {ty : ATy} (hty : zdg P t ty) {b : Nat} {p : Tr zab × Nat × Option Lo} (h : zaq H b = some p) {i : BI} (hi : μ b = some i) {off : Nat} {v : zab}
  (hv : zob ty p.1 off = some v) : ∃ v', (loadVar t ⟨i.b, off, none⟩).run P w = .ok v' w /\ zan μ v v' := by
 unfold zob at hv; unfold loadVar; rw [Sem.run_bind, hty.isAgg, Result.andThen_ok]
 cases ha : ty.desc.isAgg with
 | true =>
  rw [ha, cond_true, zad] at hv; obtain ⟨l, hl, hv⟩ := hv
  cases hv; obtain ⟨vs, _, h2, h3, _⟩ := hH.manyAt (P := P) h hi hl
  refine ⟨.agg vs.toArray, ?_, by rw [zan]; exact ⟨_, rfl, h2⟩⟩
  rw [if_pos rfl, Sem.run_bind, hty.size, Result.andThen_ok, Sem.run_bind, h3]; rfl
 | false =>
  rw [ha, cond_false] at hv; obtain ⟨v', h1, h2⟩ := hH.cellAt h hi hv
  refine ⟨v', ?_, h2⟩
  rw [if_neg (by simp), run_load, h1]
theorem zmn (hT : zc6 P C) {t : Nat} {l : List zab} {cs : Array Value} (hl : zbk μ l cs.toList) {off : Nat} {v : zab} (hv : zlx C t l off = some v) :
  ∃ v', (part t cs off).run P w = .ok v' w /\ zan μ v v' := by
 unfold zlx at hv; rw [zad] at hv; obtain ⟨ty, hty, hv⟩ := hv
 have hF := hT.facts hty
 unfold part; rw [Sem.run_bind, hF.isAgg, Result.andThen_ok]
 cases ha : ty.desc.isAgg with
 | true =>
  rw [ha, cond_true] at hv
  cases hv; refine ⟨.agg (cs.extract off (off + ty.size)), ?_, ?_⟩
  ·rw [if_pos rfl, Sem.run_bind, hF.size]; rfl
  ·rw [zan]; refine ⟨_, rfl, ?_⟩
   rw [zff, zf4, Array.toList_extract, List.extract_eq_take_drop, Nat.add_sub_cancel_left]; exact (hl.drop _).take _
 | false =>
  rw [ha, cond_false, zbn] at hv; obtain ⟨v', h1, h2⟩ := hl.get hv
  refine ⟨v', ?_, h2⟩
  rw [if_neg (by simp)]
  have : cs[off]? = some v' := by simpa using h1
  rw [this]; rfl
def LOk (P : Program) (μ : Mu) (w : World) (ρ : Operand -> Value) (o : Oper) (v : zab) : Prop := ∃ v', (execOp ρ o).run P w = .ok (.value v') w /\ zan μ v v'
variable {e : Env} {ρ : Operand -> Value} {dst : Option Tmp} {type : TypeId} {pos : String} {after : Array Edge} {guard : Option (Nat × Bool)} {v : zab}
theorem z3x (hE : zhp μ e ρ) {x : Operand} (h : zrq x C e H = some v) : LOk P μ w ρ ⟨dst, .move x, type, pos, after, guard⟩ v := ⟨ρ x, rfl, hE x v h⟩
theorem zum (hE : zhp μ e ρ) {x : Operand} (h : zrq x C e H = some v) : LOk P μ w ρ ⟨dst, .assign x, type, pos, after, guard⟩ v := ⟨ρ x, rfl, hE x v h⟩
theorem z3w (hE : zhp μ e ρ) {c a b : Operand} (h : zzas c a b C e H = some v) : LOk P μ w ρ ⟨dst, .pick c a b, type, pos, after, guard⟩ v := by
 unfold zzas at h; rw [zad] at h; obtain ⟨cv, hc, h⟩ := h
 rw [zad] at h; obtain ⟨cb, hb, h⟩ := h
 have h1 := hE _ _ hc
 rw [zdv.1 hb, zan] at h1; unfold LOk execOp; simp only [h1, asBool]
 cases cb with
 | true => exact ⟨ρ a, rfl, hE _ _ h⟩
 | false => exact ⟨ρ b, rfl, hE _ _ h⟩
theorem z3y (hT : zc6 P C) (hH : zbf B N μ H w) (hE : zhp μ e ρ) {t : Nat} {a : Operand} (h : zrr t a C e H = some v) : LOk P μ w ρ ⟨dst, .load t a, type, pos, after, guard⟩ v := by
 unfold zrr at h; simp only [zad, zf1] at h; obtain ⟨av, ha, p, rfl, ty, hty, c, hc, h⟩ := h
 have h1 := hE _ _ ha
 rw [zan] at h1; obtain ⟨i, hi, hv⟩ := h1
 obtain ⟨v', h2, h3⟩ := z3s (P := P) hH (hT.facts hty) hc hi h
 refine ⟨v', ?_, h3⟩
 simp only [execOp, Instr.loadAt, hv, Instr.sureAddr, Sem.run_bind, Sem.run_pure, Result.andThen_ok, h2]
theorem zzat (hE : zhp μ e ρ) {x : Operand} (h : zze7 x C e H = some v) : LOk P μ w ρ ⟨dst, .nilCheck x, type, pos, after, guard⟩ v := by
 unfold zze7 at h; rw [zad] at h; obtain ⟨a, ha, h⟩ := h
 rw [zae] at h; obtain ⟨hb, h⟩ := h
 cases h; have h1 := hE _ _ ha
 refine ⟨ρ x, ?_, h1⟩
 cases v <;> simp [zab.tag, Nat.beq] at hb
 ·rw [zan] at h1
  obtain ⟨i, _, hv⟩ := h1
  simp only [execOp, hv]; rfl
 ·rename_i fn a b
  rw [zan] at h1; obtain ⟨fn', a', c', hv, hf, _⟩ := h1
  cases fn with
  | func f => cases hf; simp only [execOp, hv]; rfl
  | yld l => obtain ⟨i, _, rfl⟩ := hf; simp only [execOp, hv]; rfl
theorem z3z (hE : zhp μ e ρ) {fn : Fn} {a b : Array Operand} (h : (zj8 fn a b).f C e H = some v) : LOk P μ w ρ ⟨dst, .makeFunc fn a b, type, pos, after, guard⟩ v := by
 unfold zj8 at h; split at h
 ·rename_i f
  simp only [zza1, zad] at h; obtain ⟨as, ha, bs, hb, h⟩ := h
  cases h; refine ⟨.func (.func f) (a.map ρ) (b.map ρ), rfl, ?_⟩
  rw [zan]; exact ⟨_, _, _, rfl, rfl, by simpa using hE.many ha, by simpa using hE.many hb⟩
 ·cases h
theorem zys (hT : zc6 P C) (hE : zhp μ e ρ) {t : Nat} {x : Operand} (h : zo4 t x C e H = some v) : LOk P μ w ρ ⟨dst, .makeInterface t x, type, pos, after, guard⟩ v := by
 unfold zo4 at h; simp only [zad, zae] at h; obtain ⟨ty, hty, hb, a, ha, h⟩ := h
 cases h; obtain ⟨d, hd, hn⟩ := zm9 (hT.facts hty) hb
 refine ⟨.iface t (ρ x), ?_, by rw [zan]; exact ⟨_, rfl, hE _ _ ha⟩⟩
 simp only [execOp, Instr.makeInterface, Sem.run_bind, za7 hd, Result.andThen_ok]
 cases d <;> first | rfl | exact absurd rfl (hn _)
theorem zrs (hE : zhp μ e ρ) {t : Operand} {i : Nat} (h : zfi t i C e H = some v) : LOk P μ w ρ ⟨dst, .extract t i, type, pos, after, guard⟩ v := by
 unfold zfi at h; simp only [zad, z66, zbn] at h; obtain ⟨a, ha, l, rfl, h⟩ := h
 have h1 := hE _ _ ha
 rw [zan] at h1; obtain ⟨cs, hv, hl⟩ := h1
 obtain ⟨v', h2, h3⟩ := hl.get h
 refine ⟨v', ?_, h3⟩
 have h4 : cs[i]? = some v' := by simpa using h2
 simp only [execOp, hv, Instr.extract, h4]; rfl
theorem zyt (hT : zc6 P C) (hE : zhp μ e ρ) {t : Nat} {x : Operand} {f : Nat} (h : zo6 t x f C e H = some v) : LOk P μ w ρ ⟨dst, .field t x f, type, pos, after, guard⟩ v := by
 unfold zo6 at h; simp only [zad, zgz, zbn] at h; obtain ⟨ty, hty, fs, hfs, fd, hfd, a, ha, l, rfl, h⟩ := h
 obtain ⟨g, hg, rfl⟩ := zey (hT.facts hty) hfs
 have h1 := hE _ _ ha
 rw [zan] at h1; obtain ⟨cs, hv, hl⟩ := h1
 rw [yav] at hfd
 cases hgf : g.toList[f]? with
 | none => rw [hgf] at hfd; cases hfd
 | some fld =>
  rw [hgf] at hfd; simp at hfd; subst hfd; obtain ⟨v', h2, h3⟩ := zmn (w := w) hT hl h
  refine ⟨v', ?_, h3⟩
  have h4 : g[f]? = some fld := by simpa using hgf
  simp only [execOp, hv, Instr.field, Sem.run_bind, za7 hg, Result.andThen_ok, h4, asAgg, Sem.run_pure, h2]
theorem zmy (hT : zc6 P C) (hE : zhp μ e ρ) {s : Nat} {x : Operand} {f : Nat} (h : zdn s x f C e H = some v) : LOk P μ w ρ ⟨dst, .fieldAddr s x f, type, pos, after, guard⟩ v := by
 unfold zdn at h; simp only [zad, zf1, zbn, zae] at h; obtain ⟨ty, hty, fs, hfs, fd, hfd, hz, a, ha, p, rfl, h⟩ := h
 cases h; obtain ⟨g, hg, rfl⟩ := zey (hT.facts hty) hfs
 have h1 := hE _ _ ha
 rw [zan] at h1; obtain ⟨i, hi, hv⟩ := h1
 rw [yav] at hfd
 cases hgf : g.toList[f]? with
 | none => rw [hgf] at hfd; cases hfd
 | some fld =>
  rw [hgf] at hfd; simp at hfd; subst hfd; refine ⟨.pointer (some ⟨i.b, p.2 + fld.offset, none⟩), ?_, by rw [zan]; exact ⟨i, hi, rfl⟩⟩
  have h4 : g[f]? = some fld := by simpa using hgf
  have h5 : P.cellsOf fld.type ≠ 0 := by
   have h6 : Nat.beq (P.cellsOf fld.type) 0 = false := by simpa using hz
   exact beqf.1 h6
  have h6 : (sizeOf fld.type).run P w = .ok (P.cellsOf fld.type) w := by
   unfold Program.cellsOf at h5 ⊢
   cases hinf : P.info? fld.type with
   | none => rw [hinf] at h5; exact absurd rfl h5
   | some inf => simp [sizeOf, zi3 hinf]
  simp only [execOp, hv, Instr.fieldAt, Sem.run_bind, za7 hg, Result.andThen_ok, h4, Instr.sureAddr, Sem.run_pure, fieldPlace, h6, Sem.run_ite, if_neg h5, zll]
end
end Go.Am
namespace Go.Am
open Go
section
variable {P : Program} {C : Ctx} {B N : Nat} {μ : Mu} {H : zaf} {w : World}
variable {e : Env} {ρ : Operand -> Value} {dst : Option Tmp} {type : TypeId} {pos : String} {after : Array Edge} {guard : Option (Nat × Bool)} {v : zab}
theorem zfp {k : IntKind} {n : Nat} (h : n < kHi k) : k.wrap (n : Int) = n := by
 rw [<- zdi]; show (bif Nat.blt n (kHi k) then Int.ofNat n else _) = _
 rw [zal, if_pos (zc8.2 h)]; rfl
theorem z1k (k : IntKind) : ∃ m, kHi k = 2 ^ m /\ m <= k.bits := by
 cases k
 ·exact ⟨7, rfl, by decide⟩
 ·exact ⟨15, rfl, by decide⟩
 ·exact ⟨31, rfl, by decide⟩
 ·exact ⟨63, rfl, by decide⟩
 ·exact ⟨8, rfl, by decide⟩
 ·exact ⟨16, rfl, by decide⟩
 ·exact ⟨32, rfl, by decide⟩
 ·exact ⟨64, rfl, by decide⟩
theorem zgt {k : IntKind} {n : Nat} (h : n < kHi k) : (BitVec.ofInt k.bits (n : Int)).toNat = n := by
 obtain ⟨m, hm, hle⟩ := z1k k
 rw [BitVec.toNat_ofInt]; have : n < 2 ^ k.bits := Nat.lt_of_lt_of_le (hm ▸ h) (Nat.pow_le_pow_right (by omega) hle)
 rw [<- Int.natCast_emod, Int.toNat_natCast, Nat.mod_eq_of_lt this]
theorem zkr {f : Nat -> Nat -> Nat} {k : IntKind} {a b : Int} {v : zab} (h : zfz f k a b = some v) : ∃ x y : Nat, a = x /\ b = y /\ x < kHi k /\ y < kHi k /\ v = .int k (f x y : Nat) := by
 unfold zfz at h; simp only [zad, zio, zae, yac, zc8] at h; obtain ⟨x, rfl, y, rfl, ⟨h1, h2⟩, h⟩ := h
 cases h; exact ⟨x, y, rfl, rfl, h1, h2, rfl⟩
theorem zzcv {op : BinOp} {k : IntKind} {a b : Int} (h : (zzcw op).f k a b = some v) : op ≠ .shl /\ op ≠ .shr /\ ∀ t, ∃ v', (binOp op t (.int k a) (.int k b)).run P w = .ok v' w /\ zan μ v v' := by
 cases op <;> simp only [zzcw] at h
 case add => cases h; exact ⟨by simp, by simp, fun t => ⟨.int k (k.wrap (a + b)), by simp [binOp, Op.intArith], by rw [zan, zdi]⟩⟩
 case sub => cases h; exact ⟨by simp, by simp, fun t => ⟨.int k (k.wrap (a - b)), by simp [binOp, Op.intArith], by rw [zan, zdi]⟩⟩
 case mul => cases h; exact ⟨by simp, by simp, fun t => ⟨.int k (k.wrap (a * b)), by simp [binOp, Op.intArith], by rw [zan, zdi]⟩⟩
 case quo =>
  unfold zzfi at h; simp only [zal, zie] at h; split at h
  ·cases h
  ·rename_i hb; cases h
   refine ⟨by simp, by simp, fun t => ⟨.int k (k.wrap (a.tdiv b)), ?_, by rw [zan, zdi]⟩⟩
   simp [binOp, Op.intDiv, hb]
 case rem =>
  unfold zzfh at h; simp only [zal, zie] at h; split at h
  ·cases h
  ·rename_i hb; cases h
   refine ⟨by simp, by simp, fun t => ⟨.int k (a.tmod b), ?_, by rw [zan]⟩⟩
   simp [binOp, Op.intDiv, hb]
 case and =>
  unfold iAnd at h; split at h
  ·obtain ⟨x, y, rfl, rfl, hx, hy, rfl⟩ := zkr h
   refine ⟨by simp, by simp, fun t => ⟨.int k ((x &&& y : Nat) : Int), ?_, by rw [zan]; rfl⟩⟩
   have h1 : x &&& y < kHi k := Nat.lt_of_le_of_lt Nat.and_le_left hx
   simp only [binOp, Op.intBits, BitVec.toNat_and, zgt hx, zgt hy, zfp h1]; simp
  ·simp only [zad, zio, zae, zc8] at h
   obtain ⟨y, rfl, hy, h⟩ := h
   cases h; have e : (BitVec.ofInt k.bits a).toNat = Int.toNat (Int.emod a (.ofNat (kW k))) := by
    rw [BitVec.toNat_ofInt]
    cases k <;> rfl
   generalize Int.toNat (Int.emod a (.ofNat (kW k))) = x at e ⊢
   refine ⟨by simp, by simp, fun t => ⟨.int k ((x &&& y : Nat) : Int), ?_, by rw [zan]; rfl⟩⟩
   have h1 : x &&& y < kHi k := Nat.lt_of_le_of_lt Nat.and_le_right hy
   simp only [binOp, Op.intBits, BitVec.toNat_and, e, zgt hy, zfp h1]; simp
 case or =>
  obtain ⟨x, y, rfl, rfl, hx, hy, rfl⟩ := zkr h
  obtain ⟨m, hm, _⟩ := z1k k
  refine ⟨by simp, by simp, fun t => ⟨.int k ((x ||| y : Nat) : Int), ?_, by rw [zan]; rfl⟩⟩
  have h1 : x ||| y < kHi k := by rw [hm]; exact Nat.or_lt_two_pow (hm ▸ hx) (hm ▸ hy)
  simp only [binOp, Op.intBits, BitVec.toNat_or, zgt hx, zgt hy, zfp h1]; simp
 case xor =>
  obtain ⟨x, y, rfl, rfl, hx, hy, rfl⟩ := zkr h
  obtain ⟨m, hm, _⟩ := z1k k
  refine ⟨by simp, by simp, fun t => ⟨.int k ((x ^^^ y : Nat) : Int), ?_, by rw [zan]; rfl⟩⟩
  have h1 : x ^^^ y < kHi k := by rw [hm]; exact Nat.xor_lt_two_pow (hm ▸ hx) (hm ▸ hy)
  simp only [binOp, Op.intBits, BitVec.toNat_xor, zgt hx, zgt hy, zfp h1]; simp
 case eql => cases h; exact ⟨by simp, by simp, fun t => ⟨.bool (a == b), by simp [binOp, Op.intCmp], by rw [zan, zlg]⟩⟩
 case neq => cases h; exact ⟨by simp, by simp, fun t => ⟨.bool (a != b), by simp [binOp, Op.intCmp], by rw [zan, zlg]; rfl⟩⟩
 case lss => cases h; exact ⟨by simp, by simp, fun t => ⟨.bool (a < b), by simp [binOp, Op.intCmp], by rw [zan, zzh1]⟩⟩
 case leq => cases h; exact ⟨by simp, by simp, fun t => ⟨.bool (a <= b), by simp [binOp, Op.intCmp], by rw [zan, zzh2]⟩⟩
 case gtr => cases h; exact ⟨by simp, by simp, fun t => ⟨.bool (a > b), by simp [binOp, Op.intCmp], by rw [zan, zzh1]⟩⟩
 case geq => cases h; exact ⟨by simp, by simp, fun t => ⟨.bool (a >= b), by simp [binOp, Op.intCmp], by rw [zan, zzh2]⟩⟩
 all_goals cases h
theorem zdu (s : ByteArray) : (zb0 s).length = s.size := by simp [zb0]
theorem zwy (a b : ByteArray) : zb0 (a ++ b) = zb0 a ++ zb0 b := by simp [zb0]
theorem z62 (s : ByteArray) (i : Nat) : (zb0 s)[i]? = (s[i]?).map UInt8.toNat := by
 unfold zb0; rw [yav]; congr 1
 by_cases h : i < s.size
 ·rw [getElem?_pos s i h]
  simp [ByteArray.getElem_eq_getElem_data]
 ·rw [getElem?_neg s i h]
  simp; exact Nat.le_of_not_lt h
theorem zlj (s : ByteArray) (l h : Nat) : zb0 (s.extract l h) = ((zb0 s).take h).drop l := by
 unfold zb0; rw [ByteArray.data_extract, Array.toList_extract, List.extract_eq_take_drop, <- List.map_take, <- List.map_drop, List.drop_take]
theorem zzi {a b : ByteArray} : (a.toList == b.toList) = (zes (zb0 a) (zb0 b)) := by
 rw [Lib.toList_data, Lib.toList_data, Bool.eq_iff_iff, zek]; constructor
 ·intro h; simp at h; unfold zb0; rw [h]
 ·intro h; rw [zky h]; simp
theorem z55 (a : List UInt8) : ∀ b : List UInt8, Op.bytesLess a b = z1h (a.map UInt8.toNat) (b.map UInt8.toNat) := by
 induction a with
 | nil => intro b; cases b <;> rfl
 | cons x a ih =>
  intro b
  cases b with
  | nil => rfl
  | cons y b =>
   show _ = (bif Nat.blt x.toNat y.toNat then true else bif Nat.beq x.toNat y.toNat then z1h (a.map UInt8.toNat) (b.map UInt8.toNat) else false)
   rw [Op.bytesLess, ih, zal, zal]; by_cases h : x < y
   ·have : Nat.blt x.toNat y.toNat = true := zc8.2 (by exact UInt8.lt_iff_toNat_lt.1 h)
    rw [if_pos this]; simp [h]
   ·have h1 : ¬ Nat.blt x.toNat y.toNat = true := fun k => h (UInt8.lt_iff_toNat_lt.2 (zc8.1 k))
    rw [if_neg h1]; by_cases he : x = y
    ·subst he; rw [if_pos (Nat.beq_refl _)]; simp [h]
    ·have h2 : ¬ Nat.beq x.toNat y.toNat = true := fun k => he (UInt8.toNat_inj.1 (zcy.1 k))
     rw [if_neg h2]; simp [h, he]
theorem zzcs {op : BinOp} {a b : ByteArray} (h : (zzct op).f (zb0 a) (zb0 b) = some v) : op ≠ .shl /\ op ≠ .shr /\ ∀ t, ∃ v', (binOp op t (.string a) (.string b)).run P w = .ok v' w /\ zan μ v v' := by
 cases op <;> simp only [zzct] at h
 case add =>
  simp only [zvt, zae, zc8, za1, zb7, zdu] at h; obtain ⟨h1, h⟩ := h
  cases h; refine ⟨by simp, by simp, fun t => ⟨.string (a ++ b), ?_, by rw [zan]; exact ⟨_, rfl, zwy a b⟩⟩⟩
  have h2 : ¬ (((a.size + b.size : Nat) : Int) > IntKind.i64.max) := by
   have : IntKind.i64.max = 9223372036854775807 := by decide
   rw [this]; omega
  simp only [binOp, Op.stringOp, if_neg h2]; rfl
 case eql => cases h; exact ⟨by simp, by simp, fun t => ⟨.bool (a.toList == b.toList), rfl, by rw [zan, zzi]⟩⟩
 case neq => cases h; exact ⟨by simp, by simp, fun t => ⟨.bool !(a.toList == b.toList), rfl, by rw [zan, zzi]⟩⟩
 case lss => cases h; exact ⟨by simp, by simp, fun t => ⟨.bool (Op.bytesLess a.toList b.toList), rfl, by rw [zan, Lib.toList_data, Lib.toList_data, z55]; rfl⟩⟩
 all_goals cases h
theorem zi0 {op : BinOp} {t : TypeId} {x y : Operand} {a b : Value} (h1 : ¬ (a = .nilIface /\ b = .nilIface) \/ (zm0 x || zm0 y) = true) (h2 : ∀ l m, ¬ (a = .agg l /\ b = .agg m)) : (eqGuard op t x y a b).run P w = .ok () w := by
 unfold eqGuard
 cases op
 case eql | neq =>
  rw [if_neg (by simp)]
  split
  ·rcases h1 with h1 | h1
   ·exact absurd ⟨rfl, rfl⟩ h1
   ·cases x <;> cases y <;> simp [zm0] at h1 ⊢
  ·exact absurd ⟨rfl, rfl⟩ (h2 _ _)
  ·rfl
 all_goals rfl
theorem z1y {op : BinOp} {t : TypeId} {x y : Operand} {l m : Array Value} (h : P.eqGuardType P.depth t = false) : (eqGuard op t x y (.agg l) (.agg m)).run P w = .ok () w := by
 unfold eqGuard
 cases op
 case eql | neq => rw [if_neg (by simp)]; simp [h]
 all_goals rfl
theorem zij {op : BinOp} {t yt : TypeId} {x y : Operand} {v' : Value} (h1 : (eqGuard op t x y (ρ x) (ρ y)).run P w = .ok () w) (h2 : (binOp op t (ρ x) (ρ y)).run P w = .ok v' w) :
  (execOp ρ ⟨dst, .binOp op t x y yt, type, pos, after, guard⟩).run P w = .ok (.value v') w := by
 simp only [execOp, Sem.run_bind, h1, Result.andThen_ok, h2, Sem.run_pure]
theorem zqz {k : IntKind} {b : Int} {n : Nat} (h : zq0 k b = some n) : ¬ b < 0 /\ n = min b.toNat k.bits := by
 unfold zq0 at h; simp only [zad, zio] at h; obtain ⟨m, rfl, h⟩ := h
 cases h; exact ⟨by omega, by simp⟩
theorem zsn {op : BinOp} {t yt : TypeId} {x y : Operand} {a b : zab} (hx : zan μ a (ρ x)) (hy : zan μ b (ρ y))
  (h : (op = .shl /\ znf zzbk a b = some v) \/ (op = .shr /\ znf zzjz a b = some v)) : LOk P μ w ρ ⟨dst, .binOp op t x y yt, type, pos, after, guard⟩ v := by
 rcases h with ⟨rfl, h⟩ | ⟨rfl, h⟩
 all_goals
  unfold znf at h; simp only [zad, zc5, zoo] at h; obtain ⟨p, rfl, n, ⟨k', rfl⟩, h⟩ := h
  rw [zan] at hx hy
 ·unfold zzbk at h
  rw [zad] at h; obtain ⟨m, hm, h⟩ := h
  cases h; obtain ⟨h1, rfl⟩ := zqz hm
  refine ⟨.int p.1 (p.1.wrap (p.2 * 2 ^ (min n.toNat p.1.bits))), zij (zi0 (.inl (by rw [hx]; simp)) (by rw [hx]; simp)) ?_, by rw [zan, zdi]; simp⟩
  rw [hx, hy]; simp [binOp, Op.shift, h1]
 ·unfold zzjz at h
  rw [zad] at h; obtain ⟨m, hm, h⟩ := h
  cases h; obtain ⟨h1, rfl⟩ := zqz hm
  refine ⟨.int p.1 (p.2.fdiv (2 ^ (min n.toNat p.1.bits))), zij (zi0 (.inl (by rw [hx]; simp)) (by rw [hx]; simp)) ?_, by rw [zan]; simp⟩
  rw [hx, hy]; simp [binOp, Op.shift, h1]
theorem ziz {n m : Nat} {a b : zab} {r : Bool} (h : zy4 n m a b = some r) : (a.tag = n /\ b.tag = n /\ r = true) \/ (a.tag = n /\ b.tag = m /\ r = false) \/ (a.tag = m /\ b.tag = n /\ r = false) := by
 unfold zy4 at h; simp only [zal, zcy] at h; split at h
 ·split at h
  ·cases h; rename_i h1 h2; exact .inl ⟨h1, h2, rfl⟩
  ·rw [zae, zcy] at h; obtain ⟨h1, h⟩ := h; cases h; rename_i h2 _; exact .inr (.inl ⟨h2, h1, rfl⟩)
 ·rw [zae, yac, zcy, zcy] at h; obtain ⟨⟨h1, h2⟩, h⟩ := h; cases h; exact .inr (.inr ⟨h1, h2, rfl⟩)
theorem zzb5 {t : Nat} {ty : ATy} (hF : zdg P t ty) {a b : zab} {va vb : Value} (ha : zan μ a va) (hb : zan μ b vb) {r : Bool} {d : Nat} (h : zy5 ty.desc a b = some r) :
  (Op.equalIn (d + 1) t va vb).run P w = .ok r w := by
 obtain ⟨D, hD⟩ := hF.und
 have h0 := hF.desc
 unfold zgl at h0; rw [hD] at h0; unfold Op.equalIn; rw [Sem.run_bind, za7 hD, Result.andThen_ok]; rw [<- h0] at h
 cases D <;> simp only [zy5] at h <;> try (cases h; done)
 case bool =>
  simp only [zuu, zad, zdv] at h; obtain ⟨x, rfl, y, rfl, h⟩ := h
  cases h; rw [zan] at ha hb; rw [ha, hb, znh]; rfl
 case int k =>
  simp only [zzkf, zad, zc5, zae, zev] at h; obtain ⟨x, rfl, y, rfl, hk, h⟩ := h
  cases h; rw [zan] at ha hb; rw [ha, hb, zlg]; simp [hk]
 case string =>
  simp only [zws, zad, zdp] at h; obtain ⟨x, rfl, y, rfl, h⟩ := h
  cases h; rw [zan] at ha hb; obtain ⟨s, rfl, rfl⟩ := ha
  obtain ⟨u, rfl, rfl⟩ := hb
  have : (s == u) = zes (zb0 s) (zb0 u) := by
   rw [Bool.eq_iff_iff, zek]; have h1 : (s == u) = (s.data == u.data) := rfl
   rw [h1]; exact ⟨fun h => (by unfold zb0; rw [eq_of_beq h]), fun h => (by rw [zky h]; exact beq_self_eq_true u.data)⟩
  rw [<- this]; rfl
 case pointer el =>
  rcases ziz h with ⟨h1, h2, rfl⟩ | ⟨h1, h2, rfl⟩ | ⟨h1, h2, rfl⟩ <;> cases a <;> simp [zab.tag] at h1 <;> cases b <;> simp [zab.tag] at h2 <;> rw [zan] at ha <;> rw [zan] at hb
  ·rw [ha, hb]; rfl
  ·obtain ⟨i, _, hb⟩ := hb; rw [ha, hb]; rfl
  ·obtain ⟨i, _, ha⟩ := ha; rw [ha, hb]; rfl
 case slice el =>
  rcases ziz h with ⟨h1, h2, rfl⟩ | ⟨h1, h2, rfl⟩ | ⟨h1, h2, rfl⟩ <;> cases a <;> simp [zab.tag] at h1 <;> cases b <;> simp [zab.tag] at h2 <;> rw [zan] at ha <;> rw [zan] at hb
  ·rw [ha, hb]; rfl
  ·rcases hb with ⟨i, _, _, hb, _⟩ | ⟨_, _, _, _, _, hb, _⟩ <;> (rw [ha, hb]; rfl)
  ·rcases ha with ⟨i, _, _, ha, _⟩ | ⟨_, _, _, _, _, ha, _⟩ <;> (rw [ha, hb]; rfl)
 case map k el =>
  rcases ziz h with ⟨h1, h2, rfl⟩ | ⟨h1, h2, rfl⟩ | ⟨h1, h2, rfl⟩ <;> cases a <;> simp [zab.tag] at h1 <;> cases b <;> simp [zab.tag] at h2 <;> rw [zan] at ha <;> rw [zan] at hb
  ·rw [ha, hb]; rfl
  ·obtain ⟨i, _, hb⟩ := hb; rw [ha, hb]; rfl
  ·obtain ⟨i, _, ha⟩ := ha; rw [ha, hb]; rfl
 case func ps rs vd =>
  rcases ziz h with ⟨h1, h2, rfl⟩ | ⟨h1, h2, rfl⟩ | ⟨h1, h2, rfl⟩ <;> cases a <;> simp [zab.tag] at h1 <;> cases b <;> simp [zab.tag] at h2 <;> rw [zan] at ha <;> rw [zan] at hb
  ·rw [ha, hb]; rfl
  ·obtain ⟨i, _, _, hb, _⟩ := hb; rw [ha, hb]; rfl
  ·obtain ⟨i, _, _, ha, _⟩ := ha; rw [ha, hb]; rfl
 case interface ms =>
  rcases ziz h with ⟨h1, h2, rfl⟩ | ⟨h1, h2, rfl⟩ | ⟨h1, h2, rfl⟩ <;> cases a <;> simp [zab.tag] at h1 <;> cases b <;> simp [zab.tag] at h2 <;> rw [zan] at ha <;> rw [zan] at hb
  ·rw [ha, hb]; rfl
  ·obtain ⟨i, hb, _⟩ := hb; rw [ha, hb]; rfl
  ·obtain ⟨i, ha, _⟩ := ha; rw [ha, hb]; rfl
theorem zse {t : Nat} {g : Array Field} (h : P.underlying t = some (.struct g)) : P.fieldsOf t = g := by unfold Program.fieldsOf; rw [h]
theorem zzgj (hT : zc6 P C) {D : Nat} {eq : Nat -> zab -> zab -> Option Bool} (heq : ∀ t a b va vb r, zan μ a va -> zan μ b vb -> eq t a b = some r -> (Op.equalIn D t va vb).run P w = .ok r w)
  {xs ys : List zab} {vx vy : Array Value} (hx : zbk μ xs vx.toList) (hy : zbk μ ys vy.toList) : ∀ (g : List Field) (r : Bool), (∀ f ∈ g, f.name ≠ "_") -> z7c C eq xs ys (g.map fun f => (f.offset, f.type, P.cellsOf f.type)) = some r →
   (Op.eqFields D vx vy g).run P w = .ok r w := by
 intro g; induction g with
 | nil => intro r _ h; cases h; rfl
 | cons f g ih =>
  intro r hn h; rw [ybn, z7c] at h; simp only [zad] at h; obtain ⟨a, ha, b, hb, q, hq, h⟩ := h
  obtain ⟨va, h1, h2⟩ := zmn (P := P) (w := w) hT hx ha
  obtain ⟨vb, h3, h4⟩ := zmn (P := P) (w := w) hT hy hb
  have h5 := heq _ _ _ _ _ _ h2 h4 hq
  rw [Op.eqFields, if_pos (hn f (by simp))]
  simp only [Sem.run_bind, h1, Result.andThen_ok, h3, h5]
  cases q with
  | true => rw [cond_true] at h; simpa using ih r (fun f hf => hn f (by simp [hf])) h
  | false => rw [cond_false] at h; cases h; simp
theorem zzia (hT : zc6 P C) : ∀ (d D t : Nat) (a b : zab) (va vb : Value) (r : Bool), d <= D -> zan μ a va -> zan μ b vb -> aeq C d t a b = some r -> (Op.equalIn D t va vb).run P w = .ok r w := by
 intro d; induction d with
 | zero => intro D t a b va vb r _ _ _ h; cases h
 | succ d ih =>
  intro D t a b va vb r hD ha hb h
  cases D with
  | zero => omega
  | succ D =>
   rw [aeq, zad] at h; obtain ⟨ty, hty, h⟩ := h
   have hF := hT.facts hty
   split at h
   ·rename_i fs hfs
    simp only [zae, zad, zgz] at h; obtain ⟨hok, xs, rfl, ys, rfl, h⟩ := h
    obtain ⟨g, hg, rfl⟩ := zey hF hfs
    obtain ⟨h1, _, h3⟩ := hF.eqOk hok
    rw [zan] at ha; rw [zan] at hb; obtain ⟨cx, rfl, hx⟩ := ha
    obtain ⟨cy, rfl, hy⟩ := hb
    have hfo := zse hg
    rw [run_equalIn_struct w D t cx cy (by rw [hfo]; exact hg) h1, hfo]
    exact zzgj hT (fun t a b va vb r h1 h2 h3 => ih D t a b va vb r (by omega) h1 h2 h3) hx hy g.toList r (hfo ▸ h3) h
   ·exact zzb5 hF ha hb h
theorem zzkx (hT : zc6 P C) {d t : Nat} {a b : zab} {l m : Array Value} {r : Bool} (ha : zan μ a (.agg l)) (hb : zan μ b (.agg m)) (h : aeq C d t a b = some r) : P.eqGuardType P.depth t = false := by
 cases d with
 | zero => cases h
 | succ d =>
  rw [aeq, zad] at h; obtain ⟨ty, hty, h⟩ := h
  split at h
  ·rw [zae] at h; exact ((hT.facts hty).eqOk h.1).2.1
  ·exfalso
   have hag : ∀ (a : zab) (l : Array Value), zan μ a (.agg l) -> a.tag = 13 := by
    intro a l ha
    cases a <;> rw [zan] at ha <;> first | rfl | (exfalso; revert ha; simp)
   have h1 := hag _ _ ha
   have h2 := hag _ _ hb
   cases a <;> simp [zab.tag] at h1
   cases b <;> simp [zab.tag] at h2
   revert h
   cases ty.desc <;> simp [zy5, zuu, zab.asBool, zzkf, zab.asIntK, zws, zab.asStr, zy4, z4l, zab.tag, zaj, Nat.beq]
theorem zow {a : zab} {v : Value} (h : zan μ a v) : v = .nilIface -> a.tag = 12 := by
 intro hv; subst hv
 cases a <;> rw [zan] at h <;> first | rfl | (exfalso; revert h; simp)
theorem zso (hT : zc6 P C) {op : BinOp} {t yt : TypeId} {x y : Operand} {a b : zab} {neg : Bool} (hx : zan μ a (ρ x)) (hy : zan μ b (ρ y)) (ha : a.asIntK = none) (hs : a.asStr = none)
  (hop : (neg = false /\ op = .eql) \/ (neg = true /\ op = .neq)) (h : zqd neg C t x y a b = some v) : LOk P μ w ρ ⟨dst, .binOp op t x y yt, type, pos, after, guard⟩ v := by
 unfold zqd at h; simp only [zae, zad] at h; obtain ⟨hg, r, hr, h⟩ := h
 cases h; have h1 : (Op.equal t (ρ x) (ρ y)).run P w = .ok r w := zzia hT 20 10000 t a b _ _ r (by decide) hx hy hr
 have hG : (eqGuard op t x y (ρ x) (ρ y)).run P w = .ok () w := by
  by_cases hag : ∃ l m, ρ x = .agg l /\ ρ y = .agg m
  ·obtain ⟨l, m, h2, h3⟩ := hag
   rw [h2] at hx; rw [h3] at hy; rw [h2, h3]; exact z1y (zzkx hT hx hy hr)
  ·refine zi0 ?_ fun l m hlm => hag ⟨l, m, hlm⟩
   by_cases hn : ρ x = .nilIface /\ ρ y = .nilIface
   ·right
    have h2 := zow hx hn.1
    have h3 := zow hy hn.2
    unfold z4k at hg; rw [h2, h3] at hg; simpa [Nat.beq] using hg
   ·exact .inl hn
 have hnx : ∀ k n, ρ x ≠ .int k n := by
  intro k n hv; rw [hv] at hx
  cases a <;> rw [zan] at hx <;> first | (simp [zab.asIntK] at ha; done) | (revert hx; simp)
 have hsx : ∀ s, ρ x ≠ .string s := by
  intro s hv; rw [hv] at hx
  cases a <;> rw [zan] at hx <;> first | (simp [zab.asStr] at hs; done) | (revert hx; simp)
 have hfx : ∀ k n, ρ x ≠ .float k n := by
  intro k n hv; rw [hv] at hx
  cases a <;> rw [zan] at hx <;> revert hx <;> simp
 have hcx : ∀ k n m, ρ x ≠ .complex k n m := by
  intro k n m hv; rw [hv] at hx
  cases a <;> rw [zan] at hx <;> revert hx <;> simp
 rcases hop with ⟨rfl, rfl⟩ | ⟨rfl, rfl⟩
 ·refine ⟨.bool r, zij hG ?_, by rw [zan]; rfl⟩
  revert h1 hnx hsx hfx hcx
  generalize ρ x = vx
  generalize ρ y = vy
  intro h1 hnx hsx hfx hcx
  cases vx <;> first
   | exact absurd rfl (hnx _ _)
   | exact absurd rfl (hsx _)
   | exact absurd rfl (hfx _ _)
   | exact absurd rfl (hcx _ _ _)
   | simp [binOp, h1]
 ·refine ⟨.bool (!r), zij hG ?_, by rw [zan]; rfl⟩
  revert h1 hnx hsx hfx hcx
  generalize ρ x = vx
  generalize ρ y = vy
  intro h1 hnx hsx hfx hcx
  cases vx <;> first
   | exact absurd rfl (hnx _ _)
   | exact absurd rfl (hsx _)
   | exact absurd rfl (hfx _ _)
   | exact absurd rfl (hcx _ _ _)
   | simp [binOp, h1]
theorem zza3 (hT : zc6 P C) (hE : zhp μ e ρ) {op : BinOp} {t yt : Nat} {x y : Operand} (h : zza4 op t x y C e H = some v) : LOk P μ w ρ ⟨dst, .binOp op t x y yt, type, pos, after, guard⟩ v := by
 unfold zza4 at h; simp only [zad] at h; obtain ⟨a, ha, b, hb, h⟩ := h
 have hx := hE _ _ ha
 have hy := hE _ _ hb
 clear ha hb
 revert h
 have plain : ∀ op, op ≠ .shl -> op ≠ .shr -> zw0 op C t x y a b = some v -> LOk P μ w ρ ⟨dst, .binOp op t x y yt, type, pos, after, guard⟩ v := by
  intro op _ _ h; unfold zw0 at h; split at h
  ·rename_i i hi
   simp only [zad, zc5, zae, zev] at h; obtain ⟨j, rfl, hk, h⟩ := h
   rw [zc5] at hi; subst hi; rw [zan] at hx; rw [zan] at hy; obtain ⟨_, _, h2⟩ := zzcv (P := P) (μ := μ) (w := w) h
   obtain ⟨v', h3, h4⟩ := h2 t
   refine ⟨v', zij (zi0 (.inl (by rw [hx]; simp)) (by rw [hx]; simp)) ?_, h4⟩
   rw [hx, hy, <- hk]; exact h3
  ·rename_i hi
   split at h
   ·rename_i s hs
    simp only [zad, zdp] at h; obtain ⟨u, rfl, h⟩ := h
    rw [zdp] at hs; subst hs; rw [zan] at hx; rw [zan] at hy; obtain ⟨sx, hx, rfl⟩ := hx
    obtain ⟨sy, hy, rfl⟩ := hy
    obtain ⟨_, _, h2⟩ := zzcs (P := P) (μ := μ) (w := w) h
    obtain ⟨v', h3, h4⟩ := h2 t
    refine ⟨v', zij (zi0 (.inl (by rw [hx]; simp)) (by rw [hx]; simp)) ?_, h4⟩
    rw [hx, hy]; exact h3
   ·rename_i hs
    cases op <;> simp only [zzcu] at h <;> first
     | exact zso hT hx hy hi hs (.inl ⟨rfl, rfl⟩) h
     | exact zso hT hx hy hi hs (.inr ⟨rfl, rfl⟩) h
     | (cases h; done)
 intro h
 cases op <;> simp only [binA] at h <;> first
  | exact zsn hx hy (.inl ⟨rfl, h⟩)
  | exact zsn hx hy (.inr ⟨rfl, h⟩)
  | exact plain _ (by simp) (by simp) h
theorem zza8 {k : IntKind} (h : kLo k = 0) : kHi k = 2 ^ k.bits := by
 cases k <;> first
  | (cases h; done)
  | rfl
theorem zzhi (hE : zhp μ e ρ) {op : UnOp} {t : Nat} {x : Operand} (h : lUn op x C e H = some v) : LOk P μ w ρ ⟨dst, .unOp op t x, type, pos, after, guard⟩ v := by
 unfold lUn at h; simp only [zad] at h; obtain ⟨a, ha, h⟩ := h
 have hx := hE _ _ ha
 cases op <;> simp only [unA] at h <;> try (cases h; done)
 case neg =>
  simp only [unNeg, zad, zc5] at h; obtain ⟨p, rfl, h⟩ := h
  cases h; rw [zan] at hx; refine ⟨.int p.1 (p.1.wrap (0 - p.2)), ?_, by rw [zan, zdi]⟩
  simp [execOp, hx, Op.unary, Op.intArith]
 case xor =>
  simp only [z0h, zad, zc5, zae, zcy] at h; obtain ⟨p, rfl, hk, h⟩ := h
  obtain ⟨a, b, ha1, hb, hx1, hy, rfl⟩ := zkr h
  rw [zan] at hx; have h1 : Nat.xor a b < kHi p.1 := by
   have : Nat.xor a b < 2 ^ p.1.bits := Nat.xor_lt_two_pow (by rw [<- zza8 hk]; exact hx1) (by rw [<- zza8 hk]; exact hy)
   rw [zza8 hk]; exact this
  refine ⟨.int p.1 (Nat.xor a b : Nat), ?_, by rw [zan]⟩
  have hm : (if p.1.signed then (-1 : Int) else p.1.max) = (a : Int) := by
   rw [<- ha1]; revert hk
   cases p.1 <;> intro hk <;> first
    | (cases hk; done)
    | rfl
  have e2 : (Op.intBits .xor p.1 (if p.1.signed then -1 else p.1.max) p.2).run P w = .ok (.int p.1 (Nat.xor a b : Nat)) w := by
   rw [hm, hb]; simp only [Op.intBits, BitVec.toNat_xor, zgt hx1, zgt hy]; rw [show (a ^^^ b : Nat) = Nat.xor a b from rfl, zfp h1]
   rfl
  simp [execOp, hx, Op.unary]
  rw [e2]; rfl
 case not =>
  simp only [unNot, zad, zdv] at h; obtain ⟨b, rfl, h⟩ := h
  cases h; rw [zan] at hx; refine ⟨.bool (!b), ?_, by rw [zan]⟩
  simp [execOp, hx, Op.unary]
end
end Go.Am
namespace Go.Am
open Go
section
variable {P : Program} {C : Ctx} {B N : Nat} {μ : Mu} {H : zaf} {w : World}
variable {e : Env} {ρ : Operand -> Value} {dst : Option Tmp} {type : TypeId} {pos : String} {after : Array Edge} {guard : Option (Nat × Bool)} {v : zab}
theorem zzj {a : zab} {n : Nat} (h : zgi a = some n) : a = .int .u8 (n : Int) /\ n < 256 := by
 unfold zgi at h; simp only [zad, zc5, zae, zev, zio, zc8] at h; obtain ⟨p, rfl, hk, m, hm, hlt, h⟩ := h
 cases h; rw [hk, hm]; exact ⟨rfl, hlt⟩
theorem z2b (l : List Nat) : ∀ s : ByteArray, (∀ n ∈ l, n < 256) -> zb0 ((l.map fun n : Nat => (n : Int)).foldl (fun r n => r.push (UInt8.ofNat n.toNat)) s) = zb0 s ++ l := by
 induction l with
 | nil => intro s _; simp
 | cons n l ih =>
  intro s h; rw [ybn, List.foldl_cons, ih _ fun m hm => h m (by simp [hm])]
  have : zb0 (s.push (UInt8.ofNat (n : Int).toNat)) = zb0 s ++ [n] := by
   have hn := h n (by simp)
   simp [zb0, Nat.mod_eq_of_lt hn]
  rw [this]; simp
theorem z61 {μ : Mu} : ∀ {l : List zab} {r : List Nat} {vs : List Value}, zd4 zgi l = some r -> zbk μ l vs -> vs = r.map (fun n : Nat => Value.int .u8 (n : Int)) /\ ∀ n ∈ r, n < 256 := by
 intro l; induction l with
 | nil => intro r vs h k; rw [zg9] at h; cases h; rw [zbk] at k; subst k; exact ⟨rfl, by simp⟩
 | cons a l ih =>
  intro r vs h k; rw [zch, zad] at h; obtain ⟨n, hn, h⟩ := h
  rw [zad] at h; obtain ⟨r', hr, h⟩ := h
  cases h; rw [zbk] at k; obtain ⟨v, m, rfl, h1, h2⟩ := k
  obtain ⟨rfl, hlt⟩ := zzj hn
  rw [zan] at h1; obtain ⟨h3, h4⟩ := ih hr h2
  subst h1 h3
  exact ⟨rfl, fun m hm => (yat.1 hm).elim (fun e => e ▸ hlt) (h4 m)⟩
theorem zzb (hH : zbf B N μ H w) {a : zab} {x : Value} (hx : zan μ a x) (h : zhh H a = some v) : ∃ v', (Conv.bytesToString x).run P w = .ok v' w /\ zan μ v v' /\ ∃ A l c, x = .slice A l c := by
 unfold zhh at h; split at h
 ·rename_i s hs
  rw [zdq] at hs; subst hs; simp only [zad] at h; obtain ⟨c, hc, l, hl, r, hr, h⟩ := h
  cases h; rw [zan] at hx; rcases hx with ⟨i, cap', hi, rfl, _⟩ | ⟨_, h0, _, A, _, rfl, _⟩
  rotate_left
  ·rw [h0] at hl
   cases hl
   cases hr; refine ⟨_, run_bytesToString w _ _ _ [] rfl, ?_, _, _, _, rfl⟩
   rw [zan]; exact ⟨_, rfl, rfl⟩
  obtain ⟨vs, _, h2, h3, _⟩ := hH.manyAt (P := P) hc hi hl
  obtain ⟨h4, h5⟩ := z61 hr h2
  refine ⟨_, run_bytesToString w _ _ _ (r.map fun n : Nat => (n : Int)) (by rw [h3, h4]; simp), ?_, _, _, _, rfl⟩
  rw [zan]; exact ⟨_, rfl, by rw [z2b _ _ h5]; simp [zb0]⟩
 ·simp only [zae, zcy] at h
  obtain ⟨h1, h⟩ := h
  cases h; rw [zk9.2.1] at h1; subst h1; rw [zan] at hx; subst hx; exact ⟨.string .empty, rfl, by rw [zan]; exact ⟨_, rfl, rfl⟩, _, _, _, rfl⟩
theorem zzf8 (hT : zc6 P C) (hH : zbf B N μ H w) {s d : Nat} {sty dty : ATy} (hs : C.tys.get s = some sty) (hd : C.tys.get d = some dty) {a : zab} {x : Value} (hx : zan μ a x) (h : zna C sty dty a H = some v) :
  ∃ v', (convert s d x).run P w = .ok v' w /\ zan μ v v' := by
 have hS := hT.facts hs
 have hD := hT.facts hd
 obtain ⟨su, hsu⟩ := hS.und
 unfold zna at h; split at h
 ·rename_i k hk
  simp only [zad, zoo] at h; obtain ⟨n, ⟨k', rfl⟩, h⟩ := h
  cases h; rw [zan] at hx; subst hx; refine ⟨.int k (k.wrap n), ?_, by rw [zan, zdi]⟩
  simp only [convert, Sem.run_bind, za7 hsu, za7 (zwu hD hk), Result.andThen_ok]
  rfl
 ·simp only [zae] at h
  obtain ⟨hstr, h⟩ := h
  rw [zal] at h; split at h
  ·rename_i ht
   cases h
   cases v <;> simp [zab.tag, Nat.beq] at ht
   have hx' := hx
   rw [zan] at hx; obtain ⟨str, rfl, _⟩ := hx
   refine ⟨.string str, ?_, hx'⟩
   simp only [convert, Sem.run_bind, za7 hsu, za7 (zje hD hstr), Result.andThen_ok]
   cases su <;> rfl
  ·simp only [zad, zae, zev] at h
   obtain ⟨el, hel, et, het, k, hk, rfl, h⟩ := h
   obtain ⟨v', h1, h2, A, l, c, rfl⟩ := zzb (P := P) hH hx h
   exact ⟨v', by rw [run_convert_bytes_string w s d el A l c (zc1 hS hel) (zwu (hT.facts het) hk) (zje hD hstr)]; exact h1, h2⟩
theorem z30 (hT : zc6 P C) (hH : zbf B N μ H w) (hE : zhp μ e ρ) {s d : Nat} {x : Operand} (h : zk3 s d x C e H = some v) : LOk P μ w ρ ⟨dst, .convert s d x, type, pos, after, guard⟩ v := by
 unfold zk3 at h; simp only [zad] at h; obtain ⟨a, ha, sty, hs, dty, hd, h⟩ := h
 obtain ⟨v', h1, h2⟩ := zzf8 hT hH hs hd (hE _ _ ha) h
 exact ⟨v', by simp only [execOp, Sem.run_bind, h1, Result.andThen_ok, Sem.run_pure], h2⟩
theorem zjj {y : Nat} {a : zab} {n : Nat} (h : zne y a = some n) : (∃ k, a = .int k (n : Int)) /\ n <= y := by
 unfold zne at h; simp only [zad, zkz, zae, zh2] at h; obtain ⟨m, ⟨k, rfl⟩, hle, h⟩ := h
 cases h; exact ⟨⟨k, rfl⟩, hle⟩
theorem zgn {y y' : Nat} {a : zab} {x : Value} (hx : zan μ a x) {n : Nat} (h : zne y a = some n) (hy : y <= y') (code : BoundsCode) : (Instr.sliceBound x y' code).run P w = .ok n w := by
 obtain ⟨⟨k, rfl⟩, hle⟩ := zjj h
 rw [zan] at hx; subst hx; have h1 : (0 : Int) <= n /\ (n : Int) <= y' := ⟨by omega, by omega⟩
 simp only [Instr.sliceBound, asIntOf, Sem.run_bind, Sem.run_pure, Result.andThen_ok, Sem.run_ite, if_pos h1]; simp
theorem zeu {isSlice : Bool} {len cap cap' : Nat} (hc : cap <= cap') {lo hi : Option zab} {lo' hi' : Option Value}
  (h1 : zzc9 μ lo lo') (h2 : zzc9 μ hi hi')
  {p : Nat × Nat} (h : zfn len cap lo hi = some p) : (Instr.sliceBounds isSlice len cap' lo' hi' none).run P w = .ok (p.1, p.2, cap') w /\ p.1 <= p.2 /\ (p.2 <= cap \/ p.2 = len) := by
 unfold zfn at h; simp only [zad] at h; obtain ⟨hb, hhi, l, hlo, h⟩ := h
 cases h; have hH : hb <= cap \/ hb = len := by
  cases hi with
  | none => right; cases hhi; rfl
  | some a => left; exact (zjj hhi).2
 have hL : l <= hb := by
  cases lo with
  | none => cases hlo; omega
  | some a => exact (zjj hlo).2
 refine ⟨?_, hL, hH⟩
 unfold Instr.sliceBounds
 cases hi with
 | none =>
  cases hi' with
  | some v => exact h2.elim
  | none =>
   cases hhi
   cases lo with
   | none =>
    cases lo' with
    | some v => exact h1.elim
    | none => cases hlo; simp
   | some a =>
    cases lo' with
    | none => exact h1.elim
    | some v => simp [zgn (P := P) (w := w) h1 hlo (yal _)]
 | some b =>
  cases hi' with
  | none => exact h2.elim
  | some u =>
   cases lo with
   | none =>
    cases lo' with
    | some v => exact h1.elim
    | none => cases hlo; simp [zgn (P := P) (w := w) h2 hhi hc]
   | some a =>
    cases lo' with
    | none => exact h1.elim
    | some v => simp [zgn (P := P) (w := w) h2 hhi hc, zgn (P := P) (w := w) h1 hlo (yal _)]
theorem zlc {b size cap l : Nat} {arr : Bool} (hH : zbf B N μ H w) {i : BI} (hi : μ b = some i) (h : zbi H b size cap l arr = true) :
  i.tight = true \/ (i.tight = false /\ arr = false /\ i.es = size /\ (cap ≠ l \/ l = 0)) := by
 unfold zbi at h; split at h
 ·rename_i c hc
  obtain ⟨o, h2, h3⟩ := hH.blk _ _ _ (zdd hc) hi
  obtain ⟨cs, elem, fr, _, _, _, _, h4⟩ := h3
  split at h
  ·rename_i hn; rw [hn] at h4; exact .inl h4
  ·rename_i es hes
   rw [hes] at h4; simp only [yac, ybr, ybq, zcy, beqf] at h; exact .inr ⟨h4.1, h.1.1, h4.2.1.trans h.1.2, h.2⟩
 ·cases h
theorem z64 {len cap : Nat} {lo hi : Option zab} {p : Nat × Nat} (h : zfn len cap lo hi = some p) : p.1 <= p.2 := by
 unfold zfn at h; simp only [zad] at h; obtain ⟨hb, hhi, l, hlo, h⟩ := h
 cases h
 cases lo with
 | none => cases hlo; exact Nat.zero_le _
 | some a => exact (zjj hlo).2
theorem zqy (hT : zc6 P C) (hH : zbf B N μ H w) {arr : Bool} {el b off len cap cap' : Nat} {lo hi : Option zab} {i : BI} (hi' : μ b = some i)
  (hcap : cap <= cap') (ht : i.tight = true -> cap' = cap) (hr : i.tight = false -> arr = false -> off + cap' * i.es <= i.room) (h : zdt C H arr el b off len cap lo hi = some v) :
  ∃ p size, zfn len cap lo hi = some p /\ (sizeOf el).run P w = .ok size w ∧
   zan μ v (.slice (some (if cap' = p.1 then ⟨i.b, off, none⟩ else Addr.add ⟨i.b, off, none⟩ (p.1 * size))) (p.2 - p.1) (cap' - p.1)) := by
 unfold zdt at h; simp only [zad] at h; obtain ⟨et, het, p, hp, h⟩ := h
 rw [zal] at h; split at h
 ·rename_i hend
  cases h; simp only [yac, zh2] at hend; obtain ⟨⟨hle, hle2⟩, hend⟩ := hend
  have hcp : cap = p.1 := by
   unfold zcp at hend; split at hend
   ·split at hend
    ·cases hend
    ·simp only [yac, zcy] at hend; exact hend.1.2
   ·cases hend
  refine ⟨p, et.size, hp, (hT.facts het).size, ?_⟩
  rw [zan]; rw [show p.2 - p.1 = 0 by omega]; exact .inr ⟨rfl, rfl, rfl, _, _, rfl, .inr rfl⟩
 simp only [zae, yac, zh2] at h; obtain ⟨⟨hle, hf⟩, h⟩ := h
 cases h; have hle' := z64 hp
 refine ⟨p, et.size, hp, (hT.facts het).size, ?_⟩
 rw [zan]; have hoff : (if cap' = p.1 then (⟨i.b, off, none⟩ : Addr) else Addr.add ⟨i.b, off, none⟩ (p.1 * et.size)) = ⟨i.b, (bif Nat.beq cap p.1 then off else off + p.1 * et.size), none⟩ := by
  rw [zll, zal]; simp only [zcy]; rcases zlc hH hi' hf with h1 | ⟨_, _, _, h1⟩
  ·rw [ht h1]; split <;> rfl
  ·by_cases hc : cap = p.1
   ·have h2 : p.1 = 0 := h1.resolve_left fun k => k hc
    rw [if_pos hc, h2]; split <;> simp
   ·rw [if_neg hc, if_neg (by omega)]
 refine .inl ⟨i, cap' - p.1, hi', by rw [hoff], by omega, fun h1 => by rw [ht h1], fun h1 => ?_⟩
 rcases zlc hH hi' hf with h2 | ⟨_, h3, h4, h5⟩
 ·rw [h1] at h2; cases h2
 ·have h6 := hr h1 h3
  rw [zal]; simp only [zcy]; rw [h4] at h6 ⊢
  have h8 : p.1 * et.size + (cap' - p.1) * et.size = cap' * et.size := by rw [<- yap]; congr 1; omega
  split
  ·omega
  ·omega
theorem zyq (hT : zc6 P C) (hH : zbf B N μ H w) (hE : zhp μ e ρ) {t : Nat} {x : Operand} {lo hi mx : Option Operand} (h : (zmv t x lo hi mx).f C e H = some v) :
  LOk P μ w ρ ⟨dst, .slice t x lo hi mx, type, pos, after, guard⟩ v := by
 unfold zmv at h; split at h
 ·simp only [zmw, zad] at h
  obtain ⟨a, ha, l, hl, u, hu, ty, hty, h⟩ := h
  have hx := hE _ _ ha
  have h1 := hE.opt hl
  have h2 := hE.opt hu
  have hF := hT.facts hty
  have run : ∀ {v'}, (Instr.sliceAt t (ρ x) (lo.map ρ) (hi.map ρ) none).run P w = .ok v' w -> (execOp ρ ⟨dst, .slice t x lo hi none, type, pos, after, guard⟩).run P w = .ok (.value v') w := by
   intro v' hr; simp only [execOp, Option.map_none, Sem.run_bind, hr, Result.andThen_ok, Sem.run_pure]
  unfold zgd at h; split at h
  ·rename_i s hs
   rw [zdp] at hs; subst hs; rw [zae] at h; obtain ⟨hstr, h⟩ := h
   unfold zpz at h; simp only [zad, za1, zf4, zff] at h; obtain ⟨p, hp, h⟩ := h
   cases h; rw [zan] at hx; obtain ⟨str, hxv, rfl⟩ := hx
   rw [zdu] at hp; obtain ⟨h3, _⟩ := zeu (P := P) (w := w) (isSlice := false) (yal _) h1 h2 hp
   refine ⟨.string (str.extract p.1 p.2), run ?_, by rw [zan]; exact ⟨_, rfl, zlj _ _ _⟩⟩
   have hu' := zje hF hstr
   simp only [Instr.sliceAt, Sem.run_bind, za7 hu', Result.andThen_ok, Instr.slice, hxv]; simp [h3]
  ·split at h
   ·rename_i r hr
    rw [zdq] at hr; subst hr; simp only [zad] at h; obtain ⟨el, hel, h⟩ := h
    rw [zan] at hx; rcases hx with ⟨i, cap', hi', hxv, hc, ht, hrm⟩ | ⟨k1, k3, k4, A, c, hxv, k2⟩
    rotate_left
    ·unfold zdt at h
     simp only [zad] at h; obtain ⟨et, het, p, hp, h⟩ := h
     rw [zal] at h; obtain ⟨h3, h6, h7⟩ := zeu (P := P) (w := w) (isSlice := true) (cap' := c) (by omega) h1 h2 hp
     have hp2 : p.2 = 0 := by rcases h7 with h7 | h7 <;> omega
     have hp1 : p.1 = 0 := by omega
     have hend : ¬ (Nat.ble p.2 r.2.2.2 && Nat.ble p.1 p.2 && zcp H r.1 et.size r.2.2.2 p.1 false) = true := by
      intro e; simp only [yac] at e; have e2 := e.2
      unfold zcp at e2; split at e2
      ·split at e2
       ·cases e2
       ·simp only [yac, ybq] at e2
        have e3 := e2.2
        rw [hp1] at e3
        cases e3
      ·cases e2
     rw [if_neg hend] at h; simp only [zae, yac, zh2] at h; obtain ⟨_, h⟩ := h
     cases h; rw [k3] at h3; refine ⟨.slice (some A) 0 c, run ?_, ?_⟩
     ·have hu' := zc1 hF hel
      simp only [Instr.sliceAt, Sem.run_bind, za7 hu', Result.andThen_ok, Instr.slice, hxv, h3, Sem.run_pure, (hT.facts het).size, hp1, hp2]
      simp [Addr.add]
     ·rw [zan]
      refine .inr ⟨k1, by rw [hp1, hp2], by rw [k4, hp1], A, c, rfl, ?_⟩
      rw [k4, hp1]; exact k2
    obtain ⟨p, size, hp, h4, h5⟩ := zqy (P := P) (w := w) hT hH hi' hc ht (fun a _ => hrm a) h
    obtain ⟨h3, _⟩ := zeu (P := P) (w := w) (isSlice := true) hc h1 h2 hp
    refine ⟨_, run ?_, h5⟩
    have hu' := zc1 hF hel
    simp only [Instr.sliceAt, Sem.run_bind, za7 hu', Result.andThen_ok, Instr.slice, hxv, h3, Sem.run_pure, h4]; congr 2
    split <;> rfl
   ·split at h
    ·rename_i q hq
     rw [zf1] at hq; subst hq; simp only [zad] at h; obtain ⟨ar, har, h⟩ := h
     rw [zan] at hx; obtain ⟨i, hi', hxv⟩ := hx
     obtain ⟨p, size, hp, h4, h5⟩ := zqy (P := P) (w := w) hT hH hi' (yal _) (fun _ => rfl) (fun _ h => by cases h) h
     obtain ⟨h3, _⟩ := zeu (P := P) (w := w) (isSlice := false) (yal _) h1 h2 hp
     refine ⟨_, run ?_, h5⟩
     have hu' := zqa hF har
     simp only [Instr.sliceAt, Sem.run_bind, za7 hu', Result.andThen_ok, hxv, Instr.sureAddr, h3, Sem.run_pure, h4]
    ·simp only [zae, zcy, zad] at h
     obtain ⟨htag, el, hel, ety, hety, p, hp, h⟩ := h
     cases h; rw [zk9.2.1] at htag; subst htag; rw [zan] at hx; obtain ⟨h3, h6, h7⟩ := zeu (P := P) (w := w) (isSlice := true) (yal 0) h1 h2 hp
     have hp2 : p.2 = 0 := by omega
     have hp1 : p.1 = 0 := by omega
     rw [hp1, hp2] at h3; refine ⟨.slice none 0 0, run ?_, by rw [zan]⟩
     have hu' := zc1 hF hel
     simp only [Instr.sliceAt, Sem.run_bind, za7 hu', Result.andThen_ok, Instr.slice, hx, h3, Sem.run_pure, (hT.facts hety).size]
     simp
 ·cases h
end
end Go.Am
namespace Go.Am
open Go
section
variable {P : Program} {C : Ctx} {B N : Nat} {μ : Mu} {H : zaf} {w : World}
variable {e : Env} {ρ : Operand -> Value} {dst : Option Tmp} {type : TypeId} {pos : String} {after : Array Edge} {guard : Option (Nat × Bool)} {v : zab}
theorem zmx (hT : zc6 P C) (hE : zhp μ e ρ) {t : Nat} {x i : Operand} (h : zdm t x i C e H = some v) : LOk P μ w ρ ⟨dst, .indexAddr t x i, type, pos, after, guard⟩ v := by
 unfold zdm at h; simp only [zad, zkz] at h; obtain ⟨ty, hty, a, ha, iv, hi, n, ⟨k, rfl⟩, h⟩ := h
 have hF := hT.facts hty
 have hx := hE _ _ ha
 have hiv := hE _ _ hi
 rw [zan] at hiv; split at h
 ·rename_i s hs
  rw [zdq] at hs; subst hs; simp only [zad, zae, zc8] at h; obtain ⟨el, hel, et, het, hlt, h⟩ := h
  cases h; rw [zan] at hx; rcases hx with ⟨j, cap', hj, hxv, _⟩ | ⟨_, k, _⟩
  rotate_left
  ·rw [k] at hlt; exact absurd hlt (Nat.not_lt_zero _)
  refine ⟨.pointer (some ⟨j.b, s.2.1 + n * et.size, none⟩), ?_, by rw [zan]; exact ⟨j, hj, rfl⟩⟩
  have h1 : (0 : Int) <= (n : Int) /\ (n : Int) < (s.2.2.1 : Int) := ⟨by omega, by omega⟩
  simp only [execOp, Instr.indexAt, hiv, hxv, asIntOf, Sem.run_bind, Sem.run_pure, Result.andThen_ok, za7 (zc1 hF hel), (hT.facts het).size, Sem.run_ite, if_pos h1, Int.toNat_natCast, zll]
 ·simp only [zad, zf1, zae, zc8] at h
  obtain ⟨p, rfl, ar, har, et, het, hlt, h⟩ := h
  cases h; rw [zan] at hx; obtain ⟨j, hj, hxv⟩ := hx
  refine ⟨.pointer (some ⟨j.b, p.2 + n * et.size, none⟩), ?_, by rw [zan]; exact ⟨j, hj, rfl⟩⟩
  have h1 : (0 : Int) <= (n : Int) /\ (n : Int) < (ar.1 : Int) := ⟨by omega, by omega⟩
  simp only [execOp, Instr.indexAt, hiv, hxv, asIntOf, Sem.run_bind, Sem.run_pure, Result.andThen_ok, za7 (zqa hF har), Instr.sureAddr, (hT.facts het).size, Sem.run_ite, if_pos h1, Int.toNat_natCast, zll]
theorem zyr (hT : zc6 P C) (hE : zhp μ e ρ) {t : Nat} {x i : Operand} (h : zj7 t x i C e H = some v) : LOk P μ w ρ ⟨dst, .index t x i, type, pos, after, guard⟩ v := by
 unfold zj7 at h; simp only [zad, zkz] at h; obtain ⟨ty, hty, a, ha, iv, hi, n, ⟨k, rfl⟩, h⟩ := h
 have hF := hT.facts hty
 have hx := hE _ _ ha
 have hiv := hE _ _ hi
 rw [zan] at hiv; split at h
 ·rename_i s hs
  rw [zdp] at hs; subst hs; simp only [zae, zad, zbn] at h; obtain ⟨hstr, b, hb, h⟩ := h
  cases h; rw [zan] at hx; obtain ⟨str, hxv, rfl⟩ := hx
  rw [z62, Option.map_eq_some_iff] at hb; obtain ⟨u, hu, rfl⟩ := hb
  refine ⟨.int .u8 u.toNat, ?_, by rw [zan]; rfl⟩
  simp only [execOp, Instr.index, hiv, hxv, asIntOf, Sem.run_bind, Sem.run_pure, Result.andThen_ok, za7 (zje hF hstr), Int.natCast_nonneg, if_true, Int.toNat_natCast, hu]
 ·simp only [zad, zgz, zae, zc8] at h
  obtain ⟨l, rfl, ar, har, et, het, hlt, h⟩ := h
  rw [zan] at hx; obtain ⟨cs, hxv, hl⟩ := hx
  obtain ⟨v', h2, h3⟩ := zmn (P := P) (w := w) hT hl h
  refine ⟨v', ?_, h3⟩
  have h1 : (0 : Int) <= (n : Int) /\ (n : Int) < (ar.1 : Int) := ⟨by omega, by omega⟩
  simp only [execOp, Instr.index, hiv, hxv, asIntOf, Sem.run_bind, Sem.run_pure, Result.andThen_ok, za7 (zqa hF har), (hT.facts het).size, Sem.run_ite, if_pos h1, Int.toNat_natCast, h2]
theorem ztb (l : List Value) : ∀ (off k : Nat) (cs : Array Value), off + k + l.length <= cs.size →
  ((l.zipIdx k).foldl (fun cs (c, j) => cs.setIfInBounds (off + j) c) cs).toList = cs.toList.take (off + k) ++ l ++ cs.toList.drop (off + k + l.length) := by
 induction l with
 | nil => intro off k cs _; simp
 | cons a l ih =>
  intro off k cs h; rw [List.zipIdx_cons, List.foldl_cons, ih off (k + 1) _ (by simp at h ⊢; omega)]
  have hk : off + k < cs.toList.length := by simp at h ⊢; omega
  simp only [Array.toList_setIfInBounds]; rw [List.take_set, List.drop_set_of_lt (by omega)]
  rw [show off + (k + 1) = off + k + 1 by omega, List.take_succ_eq_append_getElem hk, List.set_append_right _ _ (by simp; omega)]
  simp only [yba, ycb, yca, yao]; rw [Nat.min_eq_left (by simpa using Nat.le_of_lt hk), Nat.sub_self]
  rw [show off + k + (l.length + 1) = off + k + 1 + l.length by omega]
  rfl
theorem zp8 {place : Nat -> Option (Nat × Nat)} {ps : List (Nat × zab)} {qs : List (Nat × Value)} (hp : zex (fun p q => p.1 = q.1 /\ zan μ p.2 q.2) ps qs) :
  ∀ {cells r : List zab} {cs : Array Value}, zbk μ cells cs.toList -> zm6 place ps cells = some r -> ∃ out, Instr.fill place cs qs = some out /\ zbk μ r out.toList := by
 induction hp with
 | nil => intro cells r cs hc h; rw [zm6] at h; cases h; exact ⟨cs, rfl, hc⟩
 | @cons p q ps qs hpq _ ih =>
  intro cells r cs hc h; rw [zm6] at h; simp only [zad] at h; obtain ⟨pl, hpl, mid, hmid, h⟩ := h
  unfold zl5 at hmid; simp only [zae, yac, zcy, zh2, za1, zb7, zff, zf4] at hmid; obtain ⟨⟨h1, h2⟩, hmid⟩ := hmid
  cases hmid; obtain ⟨i, vq⟩ := q
  obtain ⟨rfl, hv⟩ := hpq
  have hvc := znb hv
  have hlen := hvc.length
  have hcl := hc.length
  simp only [yca] at hlen hcl; rw [Instr.fill, hpl]; simp only []; have h3 : ¬ (vq.cells.size ≠ pl.2 || decide (pl.1 + vq.cells.size > cs.size)) = true := by
   simp; exact ⟨by omega, by omega⟩
  have h4 : ¬ ((decide (vq.cells.size ≠ pl.2) || decide (pl.1 + vq.cells.size > cs.size)) = true) := by simpa using h3
  obtain ⟨off, sz⟩ := pl
  rw [if_neg h4]; refine ih ?_ h
  have h5 := ztb vq.cells.toList off 0 cs (by simp; omega)
  rw [<- Array.foldl_toList, Array.toList_zipIdx, h5]; simp only [ybu, yca]; have := ((hc.take off).append hvc).append (hc.drop (off + p.2.cells.length))
  rw [yba] at this; rw [hlen]; simpa using this
theorem z5j {g : Array Field} (h : ∀ f ∈ g.toList, ∃ i, P.info? f.type = some i) : (g.mapM fun f => (do pure (f.offset, <- sizeOf f.type) : Sem (Nat × Nat))).run P w = .ok (g.map fun f => (f.offset, P.cellsOf f.type)) w := by
 obtain ⟨l⟩ := g
 rw [List.mapM_toArray]; simp only [Sem.run_map, List.map_toArray]; have key : ∀ l : List Field, (∀ f ∈ l, ∃ i, P.info? f.type = some i) -> (l.mapM fun f => (do pure (f.offset, <- sizeOf f.type) : Sem (Nat × Nat))).run P w = .ok (l.map fun f => (f.offset, P.cellsOf f.type)) w := by
  intro l; induction l with
  | nil => intro _; rfl
  | cons f l ih =>
   intro h; obtain ⟨i, hi⟩ := h f (by simp)
   have h1 : (sizeOf f.type).run P w = .ok (P.cellsOf f.type) w := by simp [sizeOf, zi3 hi, Program.cellsOf, hi]
   rw [List.mapM_cons]; simp only [Sem.run_bind, h1, Result.andThen_ok, Sem.run_pure, ih fun f hf => h f (by simp [hf])]
   rfl
 rw [key l (by simpa using h)]
 rfl
theorem zyu (hT : zc6 P C) (hE : zhp μ e ρ) {t : Nat} {parts : Array (Nat × Operand)} (h : zlf t parts C e H = some v) : LOk P μ w ρ ⟨dst, .build t parts, type, pos, after, guard⟩ v := by
 unfold zlf at h; simp only [zad] at h; obtain ⟨ty, hty, ps, hps, h⟩ := h
 have hF := hT.facts hty
 have hq := hE.parts hps
 obtain ⟨z, hz, _, hzl⟩ := hF.zero (μ := μ)
 split at h
 ·rename_i fs hfs
  simp only [zad, zbn] at h; obtain ⟨l, hl, h⟩ := h
  cases h; obtain ⟨g, hg, rfl⟩ := zey hF hfs
  have hpl : (fun i : Nat => ob ((g.toList.map fun f => (f.offset, f.type, P.cellsOf f.type))[i]?) fun (x : Nat × Nat × Nat) => some (x.1, x.2.2)) = fun i => (g.map fun f => (f.offset, P.cellsOf f.type))[i]? := by
   funext i
   rw [yav]; simp only [Array.getElem?_map]; have : g.toList[i]? = g[i]? := by simp
   rw [this]
   cases g[i]? <;> rfl
  rw [hpl] at hl; obtain ⟨out, ho, hr⟩ := zp8 hq hzl hl
  refine ⟨.agg out, ?_, by rw [zan]; exact ⟨_, rfl, hr⟩⟩
  have hpr := z5j (P := P) (w := w) (g := g) (by have := hF.fields; rwa [zse hg] at this)
  simp only [execOp, Instr.build, Sem.run_bind, hz, Result.andThen_ok, za7 hg, hpr, Array.toList_map, ho, Sem.run_pure]
 ·simp only [zad] at h
  obtain ⟨ar, har, et, het, l, hl, h⟩ := h
  cases h; obtain ⟨out, ho, hr⟩ := zp8 hq hzl hl
  refine ⟨.agg out, ?_, by rw [zan]; exact ⟨_, rfl, hr⟩⟩
  simp only [execOp, Instr.build, Sem.run_bind, hz, Result.andThen_ok, za7 (zqa hF har), (hT.facts het).size, Array.toList_map, ho, Sem.run_pure]
theorem zun (hT : zc6 P C) (hE : zhp μ e ρ) {x : Operand} {xt asserted : Nat} {ok : Bool} (h : zhb x asserted ok C e H = some v) : LOk P μ w ρ ⟨dst, .typeAssert x xt asserted ok, type, pos, after, guard⟩ v := by
 unfold zhb at h; simp only [zad, zae] at h; obtain ⟨ty, hty, hb, a, ha, h⟩ := h
 have hF := hT.facts hty
 have hx := hE _ _ ha
 obtain ⟨d, hd, hn⟩ := zm9 hF hb
 obtain ⟨z, hz, hzr, _⟩ := hF.zero (μ := μ)
 split at h
 ·rename_i p hp
  rw [zpg] at hp; subst hp; rw [zan] at hx; obtain ⟨x', hxv, hr⟩ := hx
  rw [zal] at h; split at h
  ·rename_i heq
   rw [zcy] at heq
   cases h; refine ⟨if ok then .tuple #[x', .bool true] else x', ?_, ?_⟩
   ·simp only [execOp, Instr.typeAssert, hxv, Sem.run_bind, za7 hd, Result.andThen_ok]
    cases d <;> first | exact absurd rfl (hn _) | simp [heq]
   ·cases ok
    ·exact hr
    ·rw [cond_true, if_pos rfl, zan]; exact ⟨_, rfl, .cons hr (.single (by rw [zan]))⟩
  ·rename_i hne
   rw [zcy] at hne; rw [zae] at h; obtain ⟨rfl, h⟩ := h
   cases h; refine ⟨.tuple #[z, .bool false], ?_, by rw [zan]; exact ⟨_, rfl, .cons hzr (.single (by rw [zan]))⟩⟩
   simp only [execOp, Instr.typeAssert, hxv, Sem.run_bind, za7 hd, Result.andThen_ok]
   cases d <;> first | exact absurd rfl (hn _) | simp [hne, hz]
 ·simp only [zae, yac, zcy] at h
  obtain ⟨⟨htag, rfl⟩, h⟩ := h
  cases h; rw [zk9.2.2.2.2] at htag; subst htag; rw [zan] at hx; refine ⟨.tuple #[z, .bool false], ?_, by rw [zan]; exact ⟨_, rfl, .cons hzr (.single (by rw [zan]))⟩⟩
  simp only [execOp, Instr.typeAssert, hx, Sem.run_bind, za7 hd, Result.andThen_ok]
  cases d <;> first | exact absurd rfl (hn _) | simp [hz]
theorem zo7 {t : Nat} {ty : ATy} (hF : zdg P t ty) (h : zdo ty.desc = true) : P.underlying t = some .bool \/ P.underlying t = some .string \/ ∃ k, P.underlying t = some (.int k) := by
 obtain ⟨D, hD⟩ := hF.und
 have h0 := hF.desc
 unfold zgl at h0; rw [hD] at h0; rw [<- h0] at h; have h1 := zh2.1 h
 cases D <;> simp [zce.tag] at h1
 ·exact .inl hD
 ·exact .inr (.inr ⟨_, hD⟩)
 ·exact .inr (.inl hD)
def zs2 (D : TypeDesc) (a : zab) : Prop := (∃ k, D = .int k /\ a.tag = 1) \/ (D = .string /\ a.tag = 2) \/ (D = .bool /\ a.tag = 0)
theorem zs2.eq1 {D : TypeDesc} {a b : zab} {r : Bool} (h : zs2 D a) (e : ze7 a b = some r) : zhd a b = some r := by
 rcases zhc e with ⟨x, y, rfl, rfl, _⟩ | ⟨_, e⟩
 ·rcases h with ⟨_, _, ht⟩ | ⟨_, ht⟩ | ⟨_, ht⟩ <;> simp [zab.tag] at ht
 ·exact e
theorem zt5 {D : TypeDesc} {a b : zab} {va vb : Value} (hD : zs2 D a) (ha : zan μ a va) (hb : zan μ b vb) {r : Bool} (h : zhd a b = some r) : Instr.sameNow D va vb = some r := by
 rcases zfy h with ⟨k, x, y, rfl, rfl, rfl⟩ | ⟨x, y, rfl, rfl, rfl⟩ | ⟨x, y, rfl, rfl, rfl⟩ <;> rw [zan] at ha <;> rw [zan] at hb <;>
  rcases hD with ⟨k', rfl, ht⟩ | ⟨rfl, ht⟩ | ⟨rfl, ht⟩ <;> simp [zab.tag] at ht
 ·rw [ha, hb]; simp [Instr.sameNow]
 ·obtain ⟨s, rfl, rfl⟩ := ha
  obtain ⟨u, rfl, rfl⟩ := hb
  have : (s == u) = zes (zb0 s) (zb0 u) := by
   rw [Bool.eq_iff_iff, zek]; have h1 : (s == u) = (s.data == u.data) := rfl
   rw [h1]; exact ⟨fun h => (by unfold zb0; rw [eq_of_beq h]), fun h => (by rw [zky h]; exact beq_self_eq_true u.data)⟩
  simp only [Instr.sameNow, this]
 ·rw [ha, hb]; rfl
theorem z6k {D : TypeDesc} {k : zab} {kv : Value} (hD : zs2 D k) (hk : zan μ k kv) {l : List (zab × zab)} {es : List MapEntry} (hl : zex (fun p e => zan μ p.1 e.key /\ zan μ p.2 e.val) l es) :
  ∀ {i : Nat} {r : Option zab}, zhg k l = some r -> match r with
   | none => Instr.findNow D kv es i = some none
   | some v => ∃ j v', Instr.findNow D kv es i = some (some (j, v')) /\ zan μ v v' := by
 induction hl with
 | nil => intro i r h; rw [zhg] at h; cases h; rfl
 | @cons p e l es hpe _ ih =>
  intro i r h; rw [zhg, zad] at h; obtain ⟨q, hq, h⟩ := h
  have h1 := zt5 hD hk hpe.1 (hD.eq1 hq)
  cases q with
  | true =>
   rw [cond_true] at h
   cases h; exact ⟨i, e.val, by rw [Instr.findNow, h1], hpe.2⟩
  | false =>
   rw [cond_false] at h; have := ih (i := i + 1) h
   rw [Instr.findNow, h1]; exact this
theorem zjg {D : TypeDesc} {t : Nat} {empty : Bool} {d : Nat} {kv : Value} (hu : P.underlying t = some D) (hD : (∃ k, D = .int k) \/ D = .string \/ D = .bool) : (Instr.checkKey empty (d + 1) t kv).run P w = .ok () w := by
 rw [Instr.checkKey, Sem.run_bind, za7 hu, Result.andThen_ok]; rcases hD with ⟨k, rfl⟩ | rfl | rfl <;> rfl
theorem zjk {b : Nat} {l : List (zab × zab)} (h : zee H b = some l) : H.t.get b = some (.map l) := by
 unfold zee at h; rw [zad] at h; obtain ⟨x, hx, h⟩ := h
 cases x <;> simp [zak.asMap] at h
 subst h; exact hx
theorem zbf.mapAt (hH : zbf B N μ H w) {b : Nat} {l : List (zab × zab)} (h : zee H b = some l) {i : BI} (hi : μ b = some i) :
  ∃ es clock l', w.heap[i.b]? = some (.map es clock) /\ zor l l' /\ zex (fun p e => zan μ p.1 e.key /\ zan μ p.2 e.val) l' es.toList := by
 obtain ⟨o, h2, h3⟩ := hH.blk _ _ _ (zjk h) hi
 obtain ⟨es, clock, l', rfl, h4, h5⟩ := h3
 exact ⟨es, clock, l', h2, h4, h5⟩
theorem zii {r : Nat} {o : Obj} (h : w.heap[r]? = some o) (hc : ∀ a b c, o ≠ .cells a b c) : (getObj r).run P w = .ok o w := by
 simp only [getObj, Sem.run, h]
theorem zod {t : Nat} {ty : ATy} {D : TypeDesc} (hF : zdg P t ty) (hu : P.underlying t = some D) (hk : zdo ty.desc = true) {k : zab} (h : zrx ty.desc k = true) : zs2 D k := by
 have h0 := hF.desc
 unfold zgl at h0; rw [hu] at h0; rw [<- h0] at h; unfold zrx at h; rw [zcy] at h; rcases zo7 hF hk with h1 | h1 | ⟨kk, h1⟩
 ·rw [hu] at h1; cases h1; exact .inr (.inr ⟨rfl, h.symm⟩)
 ·rw [hu] at h1; cases h1; exact .inr (.inl ⟨rfl, h.symm⟩)
 ·rw [hu] at h1; cases h1; exact .inl ⟨kk, rfl, h.symm⟩
theorem zmi {α : Type} {g : α -> PUnit -> Sem (ForInStep PUnit)} : ∀ (l : List α), (∀ a ∈ l, (g a ⟨⟩).run P w = .ok (.yield ⟨⟩) w) -> (forIn l PUnit.unit g).run P w = .ok ⟨⟩ w
 | [], _ => rfl
 | a :: l, h => by
  rw [List.forIn_cons, Sem.run_bind, h a (.head _), Result.andThen_ok]
  exact zmi l fun x hx => h x (.tail _ hx)
theorem zzkh {α : Type} {l r : List α} {a : α} {i : Nat} (h : a :: r = l.drop i) : l[i]? = some a /\ r = l.drop (i + 1) := by
 have h1 : (l.drop i)[0]? = some a := by rw [<- h]; rfl
 rw [ycf] at h1; refine ⟨by simpa using h1, ?_⟩
 have : r = (l.drop i).drop 1 := by rw [<- h]; rfl
 rw [this, List.drop_drop]
theorem zsa {f : Nat × Nat × Nat} {fs : List (Nat × Nat × Nat)} {i : Nat} (h : zm5 C (f :: fs) i = true) : f.1 = i /\ (∃ ty, C.tys.get f.2.1 = some ty /\ zdo ty.desc = true) /\ zm5 C fs (i + 1) = true := by
 unfold zm5 at h; rw [zal] at h; split at h
 case isFalse => cases h
 rename_i h1; split at h
 case h_2 => cases h
 rename_i ty hty; rw [zal] at h; split at h
 case isFalse => cases h
 rename_i h2; exact ⟨zcy.1 h1, ⟨ty, hty, h2⟩, h⟩
theorem zus {f : Nat × Nat × Nat} {fs : List (Nat × Nat × Nat)} {l : List zab} (h : zwm C (f :: fs) l = true) : ∃ v r ty, l = v :: r /\ C.tys.get f.2.1 = some ty /\ zrx ty.desc v = true /\ zwm C fs r = true := by
 cases l with
 | nil => cases h
 | cons v r =>
  unfold zwm at h; split at h
  case h_2 => cases h
  rename_i ty hty; rw [zal] at h; split at h
  case isFalse => cases h
  rename_i h2; exact ⟨v, r, ty, rfl, hty, h2, h⟩
theorem zzb6 {d : zce} {a b : zab} {r : Bool} (hd : zdo d = true) (hf : zrx d a = true) (h : zhd a b = some r) : zy5 d a b = some r := by
 have h1 := zh2.1 hd
 have h2 : d.tag = a.tag := zcy.1 hf
 rcases zfy h with ⟨k, x, y, rfl, rfl, hr⟩ | ⟨x, y, rfl, rfl, hr⟩ | ⟨x, y, rfl, rfl, hr⟩ <;> cases d <;> simp [zce.tag, zab.tag] at h1 h2 <;> exact h
theorem zka {d : zce} (h : zdo d = true) : d.isAgg = false /\ d.asStruct = none := by
 have h1 := zh2.1 h
 cases d <;> simp [zce.tag] at h1 <;> exact ⟨rfl, rfl⟩
theorem z31 {xs ys : List zab} : ∀ (fs : List (Nat × Nat × Nat)) (i : Nat) (r : Bool), zm5 C fs i = true -> zwm C fs (xs.drop i) = true -> zju (xs.drop i) (ys.drop i) = some r -> z7c C (aeq C 1) xs ys fs = some r
 | [], i, r, _, hf, h => by
  generalize xs.drop i = l at hf h
  generalize ys.drop i = m at h
  cases l with
  | cons v l => cases hf
  | nil => cases m with
   | cons v m => cases h
   | nil => cases h; rfl
 | f :: fs, i, r, hfl, hf, h => by
  obtain ⟨e1, ⟨ty, hty, hkd⟩, hfl⟩ := zsa hfl
  obtain ⟨v, l, ty', e2, hty', hfit, hf⟩ := zus hf
  rw [hty] at hty'; cases hty'
  obtain ⟨gx, lx⟩ := zzkh e2.symm
  rw [e2] at h
  cases e3 : ys.drop i with
  | nil => rw [e3] at h; cases h
  | cons b m =>
   obtain ⟨gy, ly⟩ := zzkh e3.symm
   rw [e3] at h; simp only [zju, zad] at h; obtain ⟨q, hq, s, hs, h⟩ := h
   cases h; obtain ⟨p1, p2⟩ := zka hkd
   have px : ∀ {l : List zab} {a : zab}, l[i]? = some a -> zlx C f.2.1 l f.1 = some a := by
    intro l a hl; unfold zlx; rw [hty, zac, p1, cond_false, e1, zbn]; exact hl
   have hq' : aeq C 1 f.2.1 v b = some q := by
    rw [aeq, hty, zac, p2]; exact zzb6 hkd hfit hq
   rw [z7c, px gx, zac, px gy, zac, hq', zac]; rw [lx] at hf hs; rw [ly] at hs
   cases q with
   | false => rfl
   | true => rw [cond_true, z31 fs (i + 1) s hfl hf hs]; rfl
theorem zj9 {ty : ATy} (h : zjv C ty = true) : zdo ty.desc = true \/ ∃ fs, zdo ty.desc = false /\ ty.desc.asStruct = some fs /\ ty.eqOk = true /\ zm5 C fs 0 = true := by
 unfold zjv at h
 cases hk : zdo ty.desc with
 | true => exact .inl rfl
 | false =>
  rw [hk, cond_false] at h; split at h
  case h_2 => cases h
  rename_i fs hfs; rw [zal] at h; split at h
  case isFalse => cases h
  rename_i h1; exact .inr ⟨fs, rfl, hfs, h1, h⟩
theorem zi9 {ty : ATy} {k : zab} (hk : zdo ty.desc = true) (h : zfj C ty k = true) : zrx ty.desc k = true := by
 unfold zfj at h; rw [hk, cond_true] at h; exact h
theorem zic {ty : ATy} {k : zab} {fs : List (Nat × Nat × Nat)} (hk : zdo ty.desc = false) (hfs : ty.desc.asStruct = some fs) (h : zfj C ty k = true) : ∃ l, k = .agg l /\ zwm C fs l = true := by
 unfold zfj at h; rw [hk, cond_false, hfs] at h; simp only [] at h; split at h
 case h_2 => cases h
 rename_i l hl; exact ⟨l, zgz.1 hl, h⟩
theorem zry (hT : zc6 P C) {t : Nat} {ty : ATy} (hty : C.tys.get t = some ty) {fs : List (Nat × Nat × Nat)} (hfs : ty.desc.asStruct = some fs) (hok : ty.eqOk = true) (hfl : zm5 C fs 0 = true) {l : List zab} (hfit : zwm C fs l = true) {b : zab} {va vb : Value} (ha : zan μ (.agg l) va) (hb : zan μ b vb) {r : Bool} (h : ze7 (.agg l) b = some r) :
  (Op.equal t va vb).run P w = .ok r w := by
 refine zzia hT 2 10000 t (.agg l) b _ _ r (by decide) ha hb ?_
 rcases zhc h with ⟨x, y, e, rfl, h⟩ | ⟨hn, _⟩
 ·cases e
  rw [aeq, hty, zac, hfs]; simp only [zab.asAgg, zac]; rw [hok]; exact z31 fs 0 r hfl hfit h
 ·cases hn
theorem zwn {t : Nat} {k : zab} {kv : Value} (hq : ∀ (b : zab) (vb : Value) (r : Bool), zan μ b vb -> ze7 k b = some r -> (Op.equal t kv vb).run P w = .ok r w) {l : List (zab × zab)} {es : List MapEntry} (hl : zex (fun p e => zan μ p.1 e.key /\ zan μ p.2 e.val) l es) :
  ∀ {i : Nat} {r : Option zab}, zhg k l = some r -> match r with
   | none => (Instr.findAsking t kv es i).run P w = .ok none w
   | some v => ∃ j e0, (Instr.findAsking t kv es i).run P w = .ok (some (i + j, e0.val)) w /\ es[j]? = some e0 /\ zan μ v e0.val := by
 induction hl with
 | nil => intro i r h; rw [zhg] at h; cases h; rfl
 | @cons p e l es hpe _ ih =>
  intro i r h; rw [zhg, zad] at h; obtain ⟨q, hq', h⟩ := h
  have h1 := hq _ _ _ hpe.1 hq'
  cases q with
  | true =>
   rw [cond_true] at h
   cases h; exact ⟨0, e, by rw [Instr.findAsking, Sem.run_bind, h1, Result.andThen_ok]; rfl, rfl, hpe.2⟩
  | false =>
   rw [cond_false] at h; have := ih (i := i + 1) h
   rw [Instr.findAsking, Sem.run_bind, h1, Result.andThen_ok]; simp only [yar, if_false]
   cases r with
   | none => exact this
   | some v =>
    obtain ⟨j, e0, g1, g2, g3⟩ := this
    exact ⟨j + 1, e0, by rw [g1, show i + 1 + j = i + (j + 1) by omega], by simpa using g2, g3⟩
theorem zli {t : Nat} {g : Array Field} (hu : P.underlying t = some (.struct g)) (kv : Value) (es : List MapEntry) : (Instr.findKey t kv es).run P w = (Instr.findAsking t kv es).run P w := by
 unfold Instr.findKey; rw [Sem.run_bind, za7 hu, Result.andThen_ok]
 cases es with
 | nil => simp only [Instr.findNow, Instr.findAsking]
 | cons e es => simp only [Instr.findNow, Instr.sameNow]
theorem z6l (hT : zc6 P C) {t : Nat} {ty : ATy} (hty : C.tys.get t = some ty) (hk : zjv C ty = true) {k : zab} {kv : Value} (hfit : zfj C ty k = true) (hkv : zan μ k kv) {l : List (zab × zab)} {es : List MapEntry} (hl : zex (fun p e => zan μ p.1 e.key /\ zan μ p.2 e.val) l es) {r : Option zab} (hr : zhg k l = some r) :
  match r with
  | none => (Instr.findKey t kv es).run P w = .ok none w
  | some v => ∃ j v', (Instr.findKey t kv es).run P w = .ok (some (j, v')) w /\ zan μ v v' := by
 have hF := hT.facts hty
 rcases zj9 hk with hkd | ⟨fs, hkd, hfs, hok, hfl⟩
 ·obtain ⟨D, hD⟩ := hF.und
  have hfits := zod hF hD hkd (zi9 hkd hfit)
  have h3 := z6k hfits hkv hl (i := 0) hr
  have hfk : ∀ (q : Option (Nat × Value)), Instr.findNow D kv es 0 = some q -> (Instr.findKey t kv es).run P w = .ok q w := by
   intro q hq; unfold Instr.findKey; simp only [Sem.run_bind, za7 hD, Result.andThen_ok, hq, Sem.run_pure]
  cases r with
  | none => exact hfk _ h3
  | some v => obtain ⟨j, v', g1, g2⟩ := h3; exact ⟨j, v', hfk _ g1, g2⟩
 ·obtain ⟨x, rfl, hx⟩ := zic hkd hfs hfit
  obtain ⟨g, hg, rfl⟩ := zey hF hfs
  have h3 := zwn (P := P) (w := w) (t := t) (kv := kv) (fun b vb r hb h => zry hT hty hfs hok hfl hx hkv hb h) hl (i := 0) hr
  rw [zli hg]
  cases r with
  | none => exact h3
  | some v => obtain ⟨j, e0, g1, _, g2⟩ := h3; exact ⟨0 + j, _, g1, g2⟩
theorem zpb (hT : zc6 P C) {t : Nat} {ty : ATy} (hty : C.tys.get t = some ty) (hk : zjv C ty = true) {k : zab} {kv : Value} (hfit : zfj C ty k = true) (hkv : zan μ k kv) {empty : Bool} {d : Nat} : (Instr.checkKey empty (d + 2) t kv).run P w = .ok () w := by
 have hF := hT.facts hty
 rcases zj9 hk with hkd | ⟨fs, hkd, hfs, hok, hfl⟩
 ·obtain ⟨D, hD⟩ := hF.und
  have hfits := zod hF hD hkd (zi9 hkd hfit)
  have hD' : (∃ k, D = .int k) \/ D = .string \/ D = .bool := by
   rcases hfits with ⟨k, h, _⟩ | ⟨h, _⟩ | ⟨h, _⟩
   ·exact .inl ⟨k, h⟩
   ·exact .inr (.inl h)
   ·exact .inr (.inr h)
  exact zjg hD hD'
 ·obtain ⟨x, rfl, hx⟩ := zic hkd hfs hfit
  obtain ⟨g, hg, rfl⟩ := zey hF hfs
  rw [zan] at hkv; obtain ⟨cs, rfl, hcs⟩ := hkv
  rw [Instr.checkKey, Sem.run_bind, za7 hg, Result.andThen_ok]; simp only []; have key : ∀ (gl : List Field) (i : Nat), zm5 C (gl.map fun f => (f.offset, f.type, P.cellsOf f.type)) i = true -> zwm C (gl.map fun f => (f.offset, f.type, P.cellsOf f.type)) (x.drop i) = true →
    ∀ f ∈ gl, ∃ v, (part f.type cs f.offset).run P w = .ok v w /\ (Instr.checkKey empty (d + 1) f.type v).run P w = .ok () w := by
   intro gl; induction gl with
   | nil => intro i _ _ f hf; cases hf
   | cons f0 gl ih =>
    intro i h1 h2 f hf; rw [ybn] at h1 h2; obtain ⟨e1, ⟨fty, hfty, hfkd⟩, h1⟩ := zsa h1
    obtain ⟨v, l, ty', e2, hty', hfit', h2⟩ := zus h2
    obtain ⟨gx, lx⟩ := zzkh e2.symm
    simp only [] at e1 hfty hty'
    rw [hfty] at hty'; cases hty'
    rcases yat.1 hf with rfl | hf
    ·obtain ⟨p1, _⟩ := zka hfkd
     obtain ⟨v', g1, _⟩ := zmn (P := P) (w := w) hT hcs (t := f.type) (off := f.offset) (v := v) (by unfold zlx; rw [hfty, zac, p1, cond_false, e1, zbn]; exact gx)
     refine ⟨v', g1, ?_⟩
     rcases zo7 (hT.facts hfty) hfkd with hu | hu | ⟨kk, hu⟩
     ·exact zjg hu (.inr (.inr rfl))
     ·exact zjg hu (.inr (.inl rfl))
     ·exact zjg hu (.inl ⟨kk, rfl⟩)
    ·rw [lx] at h2
     exact ih (i + 1) h1 h2 f hf
  rw [Sem.run_bind, <- Array.forIn_toList, zmi]
  ·rfl
  ·intro f hf
   obtain ⟨v, g1, g2⟩ := key g.toList 0 hfl hx f (by simpa using hf)
   split
   ·simp only [Sem.run_bind, g1, Result.andThen_ok, g2, Sem.run_pure]
   ·rfl
theorem zul (hT : zc6 P C) (hH : zbf B N μ H w) (hE : zhp μ e ρ) {t : Nat} {x i : Operand} {ok : Bool} (h : zha t x i ok C e H = some v) : LOk P μ w ρ ⟨dst, .lookup t x i ok, type, pos, after, guard⟩ v := by
 unfold zha at h; simp only [zad, zae] at h; obtain ⟨ty, hty, ke, hke, kty, hkty, hkd, ety, hety, m, hm, es, hes, k, hk, hfit, r, hr, h⟩ := h
 have hF := hT.facts hty
 have hKF := hT.facts hkty
 have hEF := hT.facts hety
 have hx := hE _ _ hm
 have hkv := hE _ _ hk
 have hmap : ∃ (rs : Array MapEntry) (es' : List (zab × zab)), zor es es' /\ zex (fun p e => zan μ p.1 e.key /\ zan μ p.2 e.val) es' rs.toList /\ ((ρ x = .map none /\ rs = #[]) \/ ∃ b clock, ρ x = .map (some b) /\ w.heap[b]? = some (.map rs clock)) := by
  unfold zrj at hes; split at hes
  ·rename_i b hb
   rw [zk0] at hb; subst hb; rw [zan] at hx; obtain ⟨j, hj, hxv⟩ := hx
   obtain ⟨rs, clock, l', h1, h0, h2⟩ := hH.mapAt hes hj
   exact ⟨rs, l', h0, h2, .inr ⟨_, _, hxv, h1⟩⟩
  ·simp only [zae, zcy] at hes
   obtain ⟨htag, hes⟩ := hes
   cases hes; rw [zk9.2.2.1] at htag; subst htag; rw [zan] at hx; exact ⟨#[], [], .inl rfl, .nil, .inl ⟨hx, rfl⟩⟩
 obtain ⟨rs, es', hperm, h1, h2⟩ := hmap
 have h3 := z6l (P := P) (w := w) hT hkty hkd hfit hkv h1 (z6n hperm hr)
 have hu := z4p hF hke
 obtain ⟨z, hz, hzr, _⟩ := hEF.zero (μ := μ)
 have hck := fun b => zpb (P := P) (w := w) (empty := b) (d := 9998) (kv := ρ i) hT hkty hkd hfit hkv
 cases r with
 | none =>
  cases h; refine ⟨if ok then .tuple #[z, .bool false] else z, ?_, ?_⟩
  ·have h4 := h3
   simp only [execOp, Instr.lookup]; rcases h2 with ⟨h5, rfl⟩ | ⟨b, clock, h5, h6⟩
   ·simp only [Sem.run_bind, za7 hu, Result.andThen_ok, h5, Sem.run_pure, hck, h4, hz]
   ·simp only [Sem.run_bind, za7 hu, Result.andThen_ok, h5, zii h6 (by simp), Sem.run_pure, hck, h4, hz]
  ·cases ok
   ·exact hzr
   ·rw [cond_true, if_pos rfl, zan]; exact ⟨_, rfl, .cons hzr (.single (by rw [zan]))⟩
 | some u =>
  obtain ⟨j, v', h6, h5⟩ := h3
  cases h; refine ⟨if ok then .tuple #[v', .bool true] else v', ?_, ?_⟩
  ·simp only [execOp, Instr.lookup]
   rcases h2 with ⟨h7, rfl⟩ | ⟨b, clock, h7, h8⟩
   ·simp only [Sem.run_bind, za7 hu, Result.andThen_ok, h7, Sem.run_pure, hck, h6]
   ·simp only [Sem.run_bind, za7 hu, Result.andThen_ok, h7, zii h8 (by simp), Sem.run_pure, hck, h6]
  ·cases ok
   ·exact h5
   ·rw [cond_true, if_pos rfl, zan]; exact ⟨_, rfl, .cons h5 (.single (by rw [zan]))⟩
theorem zq4 {s : Sem Value} {v' : Value} (h : s.run P w = .ok v' w) : (do pure (Next.value (<- s)) : Sem Next).run P w = .ok (.value v') w := by
 simp only [Sem.run_bind, h, Result.andThen_ok, Sem.run_pure]
theorem zg6 {b : Builtin} {c : Call} (hc : c.callee = .builtin b) : (execOp ρ ⟨dst, .call c, type, pos, after, guard⟩).run P w = (builtin b c.argTypes type (c.args.map fun | .const _ => true | _ => false) (c.args.map ρ)).run P w := by
 simp only [execOp, resolve, hc, Sem.run_bind, Sem.run_pure, Result.andThen_ok, invoke]; rfl
theorem zex.length {α β : Type} {R : α -> β -> Prop} {l : List α} {m : List β} (h : zex R l m) : m.length = l.length := by
 induction h with
 | nil => rfl
 | cons _ _ ih => simp [ih]
theorem zza0 (hT : zc6 P C) (hH : zbf B N μ H w) (hE : zhp μ e ρ) {c : Call} (hc : c.callee = .builtin .len) (h : z1j c C e H = some v) : LOk P μ w ρ ⟨dst, .call c, type, pos, after, guard⟩ v := by
 unfold z1j at h; simp only [zad, zbn] at h; obtain ⟨t, ht, x, hx, ty, hty, a, ha, n, hn, h⟩ := h
 cases h; have hF := hT.facts hty
 have hv := hE _ _ ha
 obtain ⟨D, hD⟩ := hF.und
 have h0 := hF.desc
 unfold zgl at h0; rw [hD] at h0; have ht' : c.argTypes[0]? = some t := by simpa using ht
 have hx' : (c.args.map ρ)[0]? = some (ρ x) := by
  have : c.args[0]? = some x := by simpa using hx
  simp [this]
 refine ⟨.int .i64 n, ?_, by rw [zan]; rfl⟩
 rw [zg6 hc]; refine zq4 ?_
 simp only [Builtin.len_, ht', hx', Sem.run_bind, za7 hD, Result.andThen_ok]; unfold z7l at hn; rw [<- h0] at hn; split at hn
 ·rename_i s hs
  rw [zdp] at hs; subst hs; simp only [zae, za1] at hn; obtain ⟨hb, hn⟩ := hn
  cases hn; rw [zan] at hv; obtain ⟨str, hxv, rfl⟩ := hv
  rw [hxv, zdu]
  cases D <;> simp [zce.isString, zce.tag, Nat.beq] at hb
  rfl
 ·split at hn
  ·rename_i s hs
   rw [zdq] at hs; subst hs; simp only [zae, zcy] at hn; obtain ⟨hb, hn⟩ := hn
   cases hn; rw [zan] at hv; rcases hv with ⟨j, cap', hj, hxv, _⟩ | ⟨_, k, _, A, _, hxv, _⟩
   rotate_left
   ·rw [hxv, k]
    cases D <;> simp [zce.tag] at hb
    rfl
   rw [hxv]
   cases D <;> simp [zce.tag] at hb
   rfl
  ·split at hn
   ·rename_i ar har
    cases hn
    cases D <;> simp [zce.asArr] at har
    subst har; rfl
   ·split at hn
    ·rename_i b hb
     rw [zk0] at hb; subst hb; simp only [zae, zcy, zad, za1] at hn; obtain ⟨hb, l, hl, hn⟩ := hn
     cases hn; rw [zan] at hv; obtain ⟨j, hj, hxv⟩ := hv
     obtain ⟨rs, clock, l', h1, h0, h2⟩ := hH.mapAt hl hj
     rw [hxv]; have h3 := h2.length
     have hlen : l'.length = l.length := by
      rcases h0 with rfl | ⟨p, _⟩
      ·rfl
      ·exact p.length_eq.symm
     rw [hlen] at h3; simp only [yca] at h3
     cases D <;> simp [zce.tag] at hb
     simp only [Sem.run_bind, zii h1 (by simp), Result.andThen_ok, h3]
     rfl
    ·simp only [zae, ybr, yac, zcy] at hn
     obtain ⟨hb, hn⟩ := hn
     cases hn; rcases hb with ⟨hb, htag⟩ | ⟨hb, htag⟩
     ·rw [zk9.2.1] at htag
      subst htag; rw [zan] at hv; rw [hv]
      cases D <;> simp [zce.tag] at hb
      rfl
     ·rw [zk9.2.2.1] at htag
      subst htag; rw [zan] at hv; rw [hv]
      cases D <;> simp [zce.tag] at hb
      rfl
theorem zvc {c : Call} {p : zab × zab} (hE : zhp μ e ρ) (h : two c e = some p) : ∃ x y, c.args = #[x, y] /\ zan μ p.1 (ρ x) /\ zan μ p.2 (ρ y) := by
 unfold two at h; split at h
 ·rename_i x y hxy
  simp only [zad] at h; obtain ⟨a, ha, b, hb, h⟩ := h
  cases h; refine ⟨x, y, ?_, hE _ _ ha, hE _ _ hb⟩
  rw [<- Array.toList_inj, hxy]
 ·cases h
theorem zzaw (hE : zhp μ e ρ) {c : Call} (hc : c.callee = .builtin .max) (h : zzax c C e H = some v) : LOk P μ w ρ ⟨dst, .call c, type, pos, after, guard⟩ v := by
 unfold zzax at h; simp only [zad, zc5] at h; obtain ⟨p, hp, a, ha, b, hb, h⟩ := h
 cases h; obtain ⟨x, y, hxy, h1, h2⟩ := zvc hE hp
 rw [ha, zan] at h1; rw [hb, zan] at h2; refine ⟨.int a.1 (if b.2 > a.2 then b.2 else a.2), ?_, ?_⟩
 ·rw [zg6 hc, hxy]
  refine zq4 ?_
  simp [Builtin.max_, h1, h2, Builtin.max2]
 ·rw [zan, zal]; simp only [zoe]
theorem zzau (hE : zhp μ e ρ) {c : Call} (hc : c.callee = .builtin .min) (h : zzav c C e H = some v) : LOk P μ w ρ ⟨dst, .call c, type, pos, after, guard⟩ v := by
 unfold zzav at h; simp only [zad, zc5] at h; obtain ⟨p, hp, a, ha, b, hb, h⟩ := h
 cases h; obtain ⟨x, y, hxy, h1, h2⟩ := zvc hE hp
 rw [ha, zan] at h1; rw [hb, zan] at h2; refine ⟨.int a.1 (if b.2 < a.2 then b.2 else a.2), ?_, ?_⟩
 ·rw [zg6 hc, hxy]
  refine zq4 ?_
  simp [Builtin.min_, h1, h2, Builtin.min2]
 ·rw [zan, zal]; simp only [zoe]
theorem zzc3 (hT : zc6 P C) (hH : zbf B N μ H w) (hE : zhp μ e ρ) {o : Oper} (h : (zbx o.op).f C e H = some v) : LOk P μ w ρ o v := by
 obtain ⟨dst, op, type, pos, after, guard⟩ := o
 cases op
 case move => exact z3x (C := C) (H := H) hE h
 case assign => exact zum (C := C) (H := H) hE h
 case pick => exact z3w (C := C) (H := H) hE h
 case load => exact z3y (C := C) (H := H) hT hH hE h
 case nilCheck => exact zzat (C := C) (H := H) hE h
 case binOp => exact zza3 (C := C) (H := H) hT hE h
 case unOp => exact zzhi (C := C) (H := H) hE h
 case convert => exact z30 (C := C) (H := H) hT hH hE h
 case makeInterface => exact zys (C := C) (H := H) hT hE h
 case makeFunc => exact z3z (C := C) (H := H) hE h
 case slice => exact zyq (C := C) (H := H) hT hH hE h
 case fieldAddr => exact zmy (C := C) (H := H) hT hE h
 case field => exact zyt (C := C) (H := H) hT hE h
 case indexAddr => exact zmx (C := C) (H := H) hT hE h
 case index => exact zyr (C := C) (H := H) hT hE h
 case extract => exact zrs (C := C) (H := H) hE h
 case build => exact zyu (C := C) (H := H) hT hE h
 case typeAssert => exact zun (C := C) (H := H) hT hE h
 case lookup => exact zul (C := C) (H := H) hT hH hE h
 case call c =>
  have h : (zfx c c.callee).f C e H = some v := h
  unfold zfx at h; split at h
  ·rename_i b hb
   cases b <;> simp only [zp4] at h
   case len => exact zza0 (C := C) (H := H) hT hH hE hb h
   case max => exact zzaw (C := C) (H := H) hE hb h
   case min => exact zzau (C := C) (H := H) hE hb h
   all_goals cases h
  ·cases h
 all_goals
  have h : zwc C e H = some v := h
  cases h
end
end Go.Am
namespace Go.Am
open Go Go.RowKit
def Mu.ext (μ : Mu) (a : Nat) (i : BI) : Mu := ⟨fun b => if b = a then some i else μ b, μ.pd⟩
theorem Mu.ext_get {μ : Mu} {a b : Nat} {i : BI} : (μ.ext a i) b = if b = a then some i else μ b := rfl
theorem Mu.ext_le {μ : Mu} {a : Nat} {i : BI} (h : μ a = none) : μ.le (μ.ext a i) := by
 refine ⟨?_, rfl⟩
 intro b j hj; rw [Mu.ext_get]; split
 ·rename_i e; subst e; rw [h] at hj; cases hj
 ·exact hj
theorem Mu.ext_same {μ : Mu} {a : Nat} {i : BI} : μ.ext a i a = some i := by simp [Mu.ext]
theorem zct.mono {μ ν : Mu} (h : μ.lw ν) {n : Nat} {tm : Tm} {tmps : Array Value} (k : zct μ n tm tmps) : zct ν n tm tmps := ⟨k.1, fun i v hv => (k.2 i v hv).mono h _ _⟩
theorem zs1.mono {μ ν : Mu} (h : μ.lw ν) {l : zk5} {r : Loop} (k : zs1 μ l r) : zs1 ν l r :=
 ⟨k.state, k.pending, k.fn, k.tm.mono h, k.params, k.assign, k.body, by obtain ⟨i, h1, h2⟩ := k.defers; exact ⟨i, h _ _ h1, h2⟩⟩
theorem zex.mono {α β : Type} {R S : α -> β -> Prop} (h : ∀ a b, R a b -> S a b) {l : List α} {m : List β} (k : zex R l m) : zex S l m := by
 induction k with
 | nil => exact .nil
 | cons a _ ih => exact .cons (h _ _ a) ih
theorem zjo.mono {μ ν : Mu} (h : μ.lw ν) {d : zps} {e : Deferred} (k : zjo μ d e) : zjo ν d e := by
 refine ⟨?_⟩
 have := k.rel
 revert this
 cases d.fn with
 | none => rintro ⟨i, h1, h2⟩; exact ⟨i, h _ _ h1, h2⟩
 | some f => rintro ⟨fn, cap, as, h1, h2, h3⟩; exact ⟨fn, cap, as, h1, h2.mono h, zbk.mono h _ _ h3⟩
theorem znt.mono {μ ν : Mu} (h : μ.lw ν) {i : BI} {x : zak} {o : Obj} (k : znt μ i x o) : znt ν i x o := by
 cases x with
 | cells c n loose =>
  obtain ⟨cs, elem, fr, h1, h2, h3, h4, h5⟩ := k
  refine ⟨cs, elem, fr, h1, h2, h3, fun j v hv => ?_, h5⟩
  obtain ⟨a, v', c, d⟩ := h4 j v hv
  exact ⟨a, v', c, d.mono h _ _⟩
 | map l => obtain ⟨es, clock, l', h1, h0, h2⟩ := k; exact ⟨es, clock, l', h1, h0, h2.mono fun a b r => ⟨r.1.mono h _ _, r.2.mono h _ _⟩⟩
 | loop l => obtain ⟨r, h1, h2⟩ := k; exact ⟨r, h1, h2.mono h⟩
 | deferred l =>
  obtain ⟨l', h1, h2⟩ := k
  refine ⟨l', h1, ?_⟩
  revert h2
  cases l <;> cases l' <;> intro h2 <;> first | trivial | exact h2.elim | exact zex.mono (fun a b r => zjo.mono h r) h2
 | siter s p => exact k
section
variable {P : Program} {C : Ctx} {B N : Nat} {μ : Mu} {H : zaf} {w : World}
theorem zbf.lt (hH : zbf B N μ H w) {a : Nat} {i : BI} (h : μ a = some i) : a < H.next := by
 refine Nat.lt_of_not_le fun hle => ?_
 rw [(hH.fresh a hle).1] at h; cases h
theorem zbf.newBlk (hH : zbf B N μ H w) {x : zak} {o : Obj} {i : BI} (hib : i.b = w.heap.size) (hro : i.ro = false) (hx : znt (μ.ext H.next i) i x o) : zbf B N (μ.ext H.next i) (newBlk H x) (w.alloc o) := by
 have hle : μ.le (μ.ext H.next i) := Mu.ext_le (hH.fresh _ (yal _)).1
 have hget : ∀ a, (Am.newBlk H x).t.get a = if a = H.next then some x else H.t.get a := fun a => Tr.get_set _ _ _ _
 refine ⟨hH.base, ?_, ?_, ?_, ?_, ?_, ?_, ?_, ?_, fun a y t ha => ?_⟩
 ·intro g hg; rw [Mu.ext_get, if_neg (by have := hH.next; have := hH.base; omega)]; exact hH.glob g hg
 ·intro a y j ha hy hj
  rw [hget, if_neg (by have := hH.next; omega)] at hy
  rw [Mu.ext_get, if_neg (by have := hH.next; omega)] at hj
  exact hH.low a y j ha hy hj
 ·have := hH.next; show B <= H.next + 1; omega
 ·have := hH.size; simp; omega
 ·intro a ha
  have ha' : H.next + 1 <= a := ha
  rw [hget, if_neg (by omega)]
  rw [Mu.ext_get, if_neg (by omega)]
  exact hH.fresh a (by omega)
 ·intro a y j hy hj
  rw [hget] at hy; rw [Mu.ext_get] at hj; split at hy
  ·rename_i e; subst e; cases hy
   rw [if_pos rfl] at hj
   cases hj; refine ⟨o, ?_, hx⟩
   rw [hib]; show (w.heap.push o)[w.heap.size]? = some o; simp
  ·rename_i hne
   rw [if_neg hne] at hj; obtain ⟨q, h2, h3⟩ := hH.blk a y j hy hj
   refine ⟨q, ?_, h3.mono hle⟩
   rw [Below.heap_alloc]; exact h2
   exact (yaf.1 h2).1
 ·intro a j ha hj
  rw [Mu.ext_get] at hj; split at hj
  ·cases hj; rw [hib]; exact ⟨hH.size, by simp, hro⟩
  ·have := hH.own a j ha hj; exact ⟨this.1, by simp; omega, this.2.2⟩
 ·intro a b y z j k hy hz hj hk ha hb hjk
  rw [hget] at hy hz; rw [Mu.ext_get] at hj hk; by_cases ea : a = H.next
  ·by_cases eb : b = H.next
   ·rw [ea, eb]
   ·exfalso
    rw [if_pos ea] at hj; rw [if_neg eb] at hk
    cases hj; have := (hH.own b k hb hk).2.1; omega
  ·by_cases eb : b = H.next
   ·exfalso
    rw [if_neg ea] at hj; rw [if_pos eb] at hk
    cases hk; have := (hH.own a j ha hj).2.1; omega
   ·rw [if_neg ea] at hy hj; rw [if_neg eb] at hz hk
    exact hH.inj a b y z j k hy hz hj hk ha hb hjk
 ·obtain ⟨h1, h2, h3⟩ := hH.pnd a y t ha
  have hne : a ≠ H.next := fun e => by rw [e, (hH.fresh _ (yal _)).2] at h2; cases h2
  exact ⟨by rw [Mu.ext_get, if_neg hne]; exact h1, by rw [hget, if_neg hne]; exact h2, h3⟩
theorem zbf.drew (hH : zbf B N μ H w) : zbf B N μ H w.drew := ⟨hH.base, hH.glob, hH.low, hH.next, hH.size, hH.fresh, hH.blk, hH.own, hH.inj, hH.pnd⟩
def World.setBlk (w : World) (g : Nat) (o : Obj) : World := { w with heap := w.heap.setIfInBounds g o }
theorem zvq (w : World) (g : Nat) (a b : Obj) : World.setBlk (World.setBlk w g a) g b = World.setBlk w g b := by
 unfold World.setBlk; simp
theorem zfv (w : World) (g k : Nat) (o : Obj) : (World.setBlk w g o).heap[k]? = if k = g /\ g < w.heap.size then some o else w.heap[k]? := by
 unfold World.setBlk; simp only [ybt]; by_cases h : g = k
 ·subst h
  by_cases h2 : g < w.heap.size
  ·simp [h2]
  ·rw [if_pos rfl, if_neg h2, if_neg (fun h => h2 h.2)]; exact (Array.getElem?_eq_none (by omega)).symm
 ·rw [if_neg h, if_neg (fun e => h e.1.symm)]
theorem zld {g j : Nat} {cur : Array Value} {t : TypeId} {fz : Nat × Nat} {v : Value} (h : w.heap[g]? = some (.cells cur t fz)) : w.setCell ⟨g, j, none⟩ v = World.setBlk w g (.cells (cur.setIfInBounds j v) t fz) := by
 unfold World.setCell World.setBlk; congr 1
 apply Array.ext_getElem?
 intro k; rw [Array.getElem?_modify, ybt]; by_cases e : g = k
 ·subst e
  have hg := (yaf.1 h).1
  rw [if_pos rfl, if_pos rfl, if_pos hg, h]; rfl
 ·rw [if_neg e, if_neg e]
theorem zhr {g o : Nat} {t : TypeId} {fz : Nat × Nat} : ∀ (vs : List Value) (i : Nat) (cur : Array Value) (w : World), w.heap[g]? = some (.cells cur t fz) -> (fz.2 <= fz.1 \/ cur.size <= fz.1) →
  o + i + vs.length <= cur.size -> (∀ v ∈ vs, v.oneCell' = true) →
  ∃ cur', cur'.size = cur.size /\ (∀ j : Nat, cur'[j]? = if o + i <= j /\ j < o + i + vs.length then vs[j - (o + i)]? else cur[j]?) ∧
   (storeCells ⟨g, o, none⟩ vs i).run P w = .ok () (World.setBlk w g (.cells cur' t fz)) := by
 intro vs; induction vs with
 | nil =>
  intro i cur w h _ _ _; refine ⟨cur, rfl, fun j => by rw [if_neg (by simp)], ?_⟩
  have : World.setBlk w g (.cells cur t fz) = w := by
   unfold World.setBlk; have : w.heap.setIfInBounds g (.cells cur t fz) = w.heap := by
    apply Array.ext_getElem?
    intro k; rw [ybt]; split
    ·rename_i e; subst e; rw [h]; simp [(yaf.1 h).1]
    ·rfl
   rw [this]
  rw [this]; rfl
 | cons v vs ih =>
  intro i cur w h hfz hlen h1; simp only [yao] at hlen; have hg : g < w.heap.size := (yaf.1 h).1
  have hc : w.cell? ⟨g, o + i, none⟩ = some (cur[o + i]'(by omega)) := by simp [World.cell?, h]
  have hf : w.frozen? ⟨g, o + i, none⟩ = false := by
   simp only [World.frozen?, h]; rcases hfz with hfz | hfz
   ·simp; omega
   ·simp; omega
  have hst : (store (Addr.add ⟨g, o, none⟩ i) v).run P w = .ok () (World.setBlk w g (.cells (cur.setIfInBounds (o + i) v) t fz)) := by
   rw [zll, run_store P w _ _ _ (h1 v (by simp)), hc]
   simp only [hf]; rw [<- zld h]; rfl
  obtain ⟨cur', hs, hj, hr⟩ := ih (i + 1) (cur.setIfInBounds (o + i) v) (World.setBlk w g (.cells (cur.setIfInBounds (o + i) v) t fz)) (by rw [zfv, if_pos ⟨rfl, hg⟩]) (by simpa using hfz) (by simp; omega) (fun u hu => h1 u (by simp [hu]))
  refine ⟨cur', by simpa using hs, fun j => ?_, ?_⟩
  ·rw [hj, ybt]
   by_cases e : j = o + i
   ·subst e
    rw [if_neg (by omega), if_pos rfl, if_pos (by omega), if_pos (by simp)]
    simp
   ·by_cases e2 : o + (i + 1) <= j /\ j < o + (i + 1) + vs.length
    ·rw [if_pos e2, if_pos (by simp; omega)]
     rw [show j - (o + i) = (j - (o + (i + 1))) + 1 by omega]; simp
    ·rw [if_neg e2, if_neg (by omega), if_neg (by simp; omega)]
  ·rw [storeCells]
   simp only [Sem.run_bind, hst, Result.andThen_ok, hr, zvq]
theorem zbf.upd (hH : zbf B N μ H w) {a : Nat} {x x' : zak} {i : BI} {o' : Obj} (hx : H.t.get a = some x) (hi : μ a = some i) (ha : B <= a) (hb : znt μ i x' o') : zbf B N μ (setBlk H a x') (World.setBlk w i.b o') := by
 have hget : ∀ b, (Am.setBlk H a x').t.get b = if b = a then some x' else H.t.get b := fun b => Tr.get_set _ _ _ _
 have hlt := (hH.own a i ha hi).2.1
 refine ⟨hH.base, hH.glob, ?_, hH.next, ?_, ?_, ?_, ?_, ?_, fun b y t hb => ?_⟩
 ·intro b y j hb hy hj; rw [hget, if_neg (by omega)] at hy; exact hH.low b y j hb hy hj
 ·have := hH.size; simpa [World.setBlk] using this
 ·intro b hb
  have hb' : H.next <= b := hb
  have := hH.lt hi
  rw [hget, if_neg (by omega)]
  exact hH.fresh b hb'
 ·intro b y j hy h1
  rw [hget] at hy; split at hy
  ·rename_i e; subst e; cases hy
   rw [hi] at h1; cases h1; exact ⟨o', by rw [zfv, if_pos ⟨rfl, hlt⟩], hb⟩
  ·rename_i hne
   obtain ⟨q, h2, h3⟩ := hH.blk b y j hy h1
   refine ⟨q, ?_, h3⟩
   rw [zfv, if_neg]
   ·exact h2
   ·rintro ⟨e, _⟩
    by_cases hb : B <= b
    ·exact hne (hH.inj b a y x j i hy hx h1 hi hb ha e)
    ·have h5 := (hH.low b y j (by omega) hy h1).1
     have h6 := (hH.own a i ha hi).1
     omega
 ·intro b j hb hj; have := hH.own b j hb hj; exact ⟨this.1, by simpa [World.setBlk] using this.2.1, this.2.2⟩
 ·intro b c y z j k hy hz hj hk hb hc hjk
  have key : ∀ b y, (Am.setBlk H a x').t.get b = some y -> ∃ y', H.t.get b = some y' := by
   intro b y hy; rw [hget] at hy; split at hy
   ·rename_i e; subst e; exact ⟨x, hx⟩
   ·exact ⟨y, hy⟩
  obtain ⟨y', hy'⟩ := key b y hy
  obtain ⟨z', hz'⟩ := key c z hz
  exact hH.inj b c y' z' j k hy' hz' hj hk hb hc hjk
 ·obtain ⟨h1, h2, h3⟩ := hH.pnd b y t hb
  have hne : b ≠ a := fun e => by rw [e, hi] at h1; cases h1
  exact ⟨h1, by rw [hget, if_neg hne]; exact h2, h3⟩
theorem zc0 {g : Nat} {o : Obj} (h : N <= g) : Below N w (World.setBlk w g o) :=
 ⟨rfl, rfl, rfl, by simp [World.setBlk], fun k hk => by rw [zfv, if_neg (by omega)]⟩
theorem zbk.one {l : List zab} : ∀ {vs : List Value}, zbk μ l vs -> (∀ a ∈ l, a.one = true) -> ∀ v ∈ vs, v.oneCell' = true := by
 induction l with
 | nil => intro vs h _ v hv; rw [zbk] at h; subst h; cases hv
 | cons a l ih =>
  intro vs h k v hv; rw [zbk] at h; obtain ⟨u, r, rfl, h1, h2⟩ := h
  rcases yat.1 hv with rfl | hv
  ·exact h1.one (k a (by simp))
  ·exact ih h2 (fun b hb => k b (by simp [hb])) v hv
theorem znt.write {i : BI} {c : Tr zab} {n : Nat} {loose : Option Lo} {cs cs' : Array Value} {elem : TypeId} {fr : Nat × Nat} (h : znt μ i (.cells c n loose) (.cells cs elem fr)) {l : List zab} {vs : List Value} (hl : zbk μ l vs)
  {off : Nat} (hoff : off + l.length <= n) (hs : cs'.size = cs.size) (hj : ∀ j : Nat, cs'[j]? = if off <= j /\ j < off + vs.length then vs[j - off]? else cs[j]?) : znt μ i (.cells (c.setMany l off) n loose) (.cells cs' elem fr) := by
 obtain ⟨cs0, elem0, fr0, e, h2, h3, h4, h5⟩ := h
 cases e
 have hlen := hl.length
 refine ⟨cs', elem, fr, rfl, by omega, by rw [hs]; exact h3, fun j v hv => ?_, by rw [hs]; exact h5⟩
 rw [Tr.get_setMany] at hv; split at hv
 ·rename_i hjr
  obtain ⟨u, hu, hr⟩ := hl.get hv
  refine ⟨by omega, u, ?_, hr⟩
  rw [hj, if_pos (by omega)]; exact hu
 ·rename_i hjr
  obtain ⟨a, v', d, f⟩ := h4 j v hv
  refine ⟨a, v', ?_, f⟩
  rw [hj, if_neg (by omega)]; exact d
theorem zxp (hbase : B <= C.base) (hH : zbf B N μ H w) {b off : Nat} {l : List zab} {H' : zaf} (h : zem C H b off l = some H') {i : BI} (hi : μ b = some i) {vs : List Value} (hl : zbk μ l vs) :
  ∃ w', (storeCells ⟨i.b, off, none⟩ vs).run P w = .ok () w' /\ zbf B N μ H' w' /\ Below N w w' := by
 unfold zem at h; simp only [zae, zad, yac, zh2, za1, zc3, ybq] at h; obtain ⟨hb, c, hc, ⟨hle, hall⟩, h⟩ := h
 cases h; have hb' : B <= b := by
  have : ¬ b < C.base := fun k => by rw [zc8.2 k] at hb; cases hb
  omega
 have hx := zdd hc
 obtain ⟨o, h2, h3⟩ := hH.blk _ _ _ hx hi
 have h3' := h3
 obtain ⟨cs, elem, fr, rfl, h4, h5, _, _⟩ := h3
 have hone : ∀ a ∈ l, a.one = true := fun a ha => ybc.1 hall a ha
 have hlen := hl.length
 have hown := hH.own b i hb' hi
 have h5 := h5.resolve_left (by rw [hown.2.2]; simp)
 obtain ⟨cs', hs, hj, hr⟩ := zhr (P := P) (o := off) vs 0 cs w h2 h5 (by omega) (hl.one hone)
 exact ⟨_, hr, hH.upd hx hi hb' (h3'.write hl hle hs (by simpa using hj)), zc0 hown.1⟩
theorem zbk.rel_one {l : List zab} {vs : List Value} (hl : zbk μ l vs) {i : BI} (ht : i.tight = true) {elem : TypeId} : znt μ i (.cells (Tr.ofList l) (zbw l) none) (.cells vs.toArray elem (0, 0)) := by
 have hlen := hl.length
 refine ⟨vs.toArray, elem, (0, 0), rfl, by rw [za1]; simp [hlen], .inr (.inl (yal _)), fun j v hv => ?_, ht⟩
 rw [Tr.get_ofList] at hv; obtain ⟨u, hu, hr⟩ := hl.get hv
 refine ⟨by rw [za1]; exact (yad.1 hv).1, u, by simpa using hu, hr⟩
theorem zbf.newTight (hH : zbf B N μ H w) {l : List zab} {vs : List Value} (hl : zbk μ l vs) (elem : TypeId) :
  zbf B N (μ.ext H.next ⟨w.heap.size, true, 0, 0, false⟩) (za0 H l none) (w.alloc (.cells vs.toArray elem)) :=
 hH.newBlk rfl rfl ((zbk.mono (Mu.ext_le (hH.fresh _ (yal _)).1).f _ _ hl).rel_one rfl)
theorem zbf.newTag (hH : zbf B N μ H w) {l : List zab} {vs : List Value} (hl : zbk μ l vs) (elem : TypeId) :
  zbf B N (μ.ext H.next ⟨w.heap.size, false, 1, vs.length, false⟩) (za0 H l (some (.ty elem))) (w.alloc (.cells vs.toArray elem)) := by
 have h := (zbk.mono (Mu.ext_le (hH.fresh _ (yal _)).1 (i := ⟨w.heap.size, false, 1, vs.length, false⟩)).f _ _ hl)
 have hn := hl.length
 refine hH.newBlk rfl rfl ⟨vs.toArray, elem, (0, 0), rfl, by rw [za1]; simp [hn], .inr (.inl (yal _)), fun j v hv => ?_, rfl, rfl, by simp, fun t e => by cases e; rfl⟩
 rw [Tr.get_ofList] at hv; obtain ⟨u, hu, hr⟩ := h.get hv
 exact ⟨by rw [za1]; exact (yad.1 hv).1, u, by simpa using hu, hr⟩
theorem zcd (h : N <= w.heap.size) (o : Obj) : Below N w (w.alloc o) := (Below.refl N w).alloc h o
def Mu.wait (μ : Mu) (a : Nat) (x : zak × Nat × Nat) : Mu := ⟨μ.m, fun b => if b = a then some x else μ.pd b⟩
def Mu.land (μ : Mu) (a : Nat) (i : BI) : Mu := ⟨fun b => if b = a then some i else μ b, fun b => if b = a then none else μ.pd b⟩
theorem zbf.early (hH : zbf B N μ H w) {x : zak} {t : Nat × Nat} : zbf B N (μ.wait H.next (x, t)) (Am.newBlk H x) w := by
 have hget : ∀ a, (Am.newBlk H x).t.get a = if a = H.next then some x else H.t.get a := fun a => Tr.get_set _ _ _ _
 have hn := hH.fresh _ (yal _)
 have gone : ∀ a i, μ a = some i -> a ≠ H.next := fun a i h e => by rw [e, hn.1] at h; cases h
 have bm : ∀ i y o, znt μ i y o -> znt (μ.wait H.next (x, t)) i y o := fun i y o h => znt.mono (μ := μ) (ν := μ.wait H.next (x, t)) (fun _ _ h => h) h
 refine ⟨hH.base, hH.glob, fun a y i ha hy hi => ?_, by have := hH.next; show B <= H.next + 1; omega, hH.size, fun a ha => ?_, fun a y i hy hi => ?_, hH.own, fun a b y z i j hy hz hi hj => ?_, fun a y s ha => ?_⟩
 ·rw [hget, if_neg (gone a i hi)] at hy; exact hH.low a y i ha hy hi
 ·have ha' : H.next + 1 <= a := ha
  have := hH.fresh a (by omega)
  exact ⟨this.1, by rw [hget, if_neg (by omega)]; exact this.2⟩
 ·rw [hget, if_neg (gone a i hi)] at hy
  obtain ⟨o, h1, h2⟩ := hH.blk a y i hy hi
  exact ⟨o, h1, bm _ _ _ h2⟩
 ·rw [hget, if_neg (gone a i hi)] at hy
  rw [hget, if_neg (gone b j hj)] at hz
  exact hH.inj a b y z i j hy hz hi hj
 ·change (if a = H.next then some (x, t) else μ.pd a) = some (y, s) at ha
  split at ha
  ·rename_i e; cases ha; subst e
   exact ⟨hn.1, by rw [hget, if_pos rfl], hH.next⟩
  ·rename_i e
   obtain ⟨h1, h2, h3⟩ := hH.pnd a y s ha
   exact ⟨h1, by rw [hget, if_neg e]; exact h2, h3⟩
theorem zbf.late (hH : zbf B N μ H w) {a : Nat} {x : zak} {t : Nat × Nat} {o : Obj} {i : BI} (hp : μ.pd a = some (x, t)) (hib : i.b = w.heap.size) (hro : i.ro = false) (hx : znt (μ.land a i) i x o) : zbf B N (μ.land a i) H (w.alloc o) := by
 obtain ⟨p1, p2, p3⟩ := hH.pnd a x t hp
 have lg : ∀ b, (μ.land a i) b = if b = a then some i else μ b := fun _ => rfl
 have hle : μ.lw (μ.land a i) := fun b j hj => by
  rw [lg, if_neg fun e => by rw [e, p1] at hj; cases hj]; exact hj
 have hbase := hH.base
 refine ⟨hH.base, fun g hg => by rw [lg, if_neg (by omega)]; exact hH.glob g hg, fun b y j hb hy hj => ?_, hH.next, by have := hH.size; simp; omega, fun b hb => ?_, fun b y j hy hj => ?_, fun b j hb hj => ?_, fun b c y z j k hy hz hj hk hb hc hjk => ?_, fun b y s hb => ?_⟩
 ·rw [lg, if_neg (by omega)] at hj; exact hH.low b y j hb hy hj
 ·have := hH.fresh b hb
  rw [lg, if_neg fun e => by rw [e, p2] at this; cases this.2]
  exact this
 ·rw [lg] at hj
  split at hj
  ·rename_i e; subst e; cases hj
   rw [p2] at hy; cases hy; exact ⟨o, by rw [hib]; show (w.heap.push o)[w.heap.size]? = some o; simp, hx⟩
  ·obtain ⟨q, h2, h3⟩ := hH.blk b y j hy hj
   refine ⟨q, ?_, h3.mono hle⟩
   rw [Below.heap_alloc]; exact h2
   exact (yaf.1 h2).1
 ·rw [lg] at hj
  split at hj
  ·cases hj; rw [hib]; exact ⟨hH.size, by simp, hro⟩
  ·have := hH.own b j hb hj; exact ⟨this.1, by simp; omega, this.2.2⟩
 ·rw [lg] at hj hk
  by_cases eb : b = a
  ·by_cases ec : c = a
   ·rw [eb, ec]
   ·exfalso
    rw [if_pos eb] at hj; rw [if_neg ec] at hk
    cases hj; have := (hH.own c k hc hk).2.1; omega
  ·by_cases ec : c = a
   ·exfalso
    rw [if_neg eb] at hj; rw [if_pos ec] at hk
    cases hk; have := (hH.own b j hb hj).2.1; omega
   ·rw [if_neg eb] at hj; rw [if_neg ec] at hk
    exact hH.inj b c y z j k hy hz hj hk hb hc hjk
 ·change (if b = a then none else μ.pd b) = some (y, s) at hb
  split at hb
  ·cases hb
  ·rename_i e
   obtain ⟨h1, h2, h3⟩ := hH.pnd b y s hb
   exact ⟨by rw [lg, if_neg e]; exact h1, h2, h3⟩
theorem zbf.ext_le (hH : zbf B N μ H w) {i : BI} : μ.le (μ.ext H.next i) := Mu.ext_le (hH.fresh _ (yal _)).1
end
end Go.Am
namespace Go.Am
open Go Go.RowKit
section
variable {P : Program} {C : Ctx} {B N : Nat} {μ : Mu} {H H' : zaf} {w : World}
variable {e : Env} {ρ : Operand -> Value} {dst : Option Tmp} {type : TypeId} {pos : String} {after : Array Edge} {guard : Option (Nat × Bool)} {v : zab}
def z2o (P : Program) (B N : Nat) (μ : Mu) (w : World) (ρ : Operand -> Value) (o : Oper) (v : zab) (H' : zaf) : Prop :=
 ∃ v' w' μ', ((execOp ρ o).run P w = .ok (.value v') w' \/ ((execOp ρ o).run P w = .ok .skip w' /\ v' = undef)) /\ μ.le μ' /\ zbf B N μ' H' w' /\ Below N w w' /\ zan μ' v v'
theorem LOk.hv (hH : zbf B N μ H w) {o : Oper} (h : LOk P μ w ρ o v) : z2o P B N μ w ρ o v H := by
 obtain ⟨v', h1, h2⟩ := h
 exact ⟨v', w, μ, .inl h1, μ.le_refl, hH, Below.refl _ _, h2⟩
theorem zd3 {x : Option (zab × zaf)} {v : zab} {H' : zaf} (h : zvw x = .val v H') : x = some (v, H') := by
 unfold zvw at h; split at h
 ·injection h with h1 h2; rw [<- h1, <- h2]
 ·cases h
theorem zei {elem : TypeId} {cs : Array Value} : (newRow elem cs).run P w = .ok ⟨w.heap.size, 0, none⟩ (w.alloc (.cells cs elem)) := by
 simp [newRow]
theorem zkk {elem : TypeId} {v : Value} : (newVar elem v).run P w = .ok ⟨w.heap.size, 0, none⟩ (w.alloc (.cells v.cells elem)) := zei
theorem zxi : zan μ zbh undef := by rw [zbh, zan]; exact ⟨_, rfl, .nil⟩
theorem z5e {t : Nat} {e : Lo} (h : zh7 C t = some e) : e = .ty t := by
 unfold zh7 at h; rw [zal] at h; split at h
 ·cases h; rfl
 ·split at h <;> cases h; rfl
theorem zbf.newVar (hH : zbf B N μ H w) {l : List zab} {vs : List Value} (hl : zbk μ l vs) {t : Nat} :
  ∃ i : BI, i.b = w.heap.size /\ zbf B N (μ.ext H.next i) (za0 H l (zh7 C t)) (w.alloc (.cells vs.toArray t)) := by
 cases ht : zh7 C t with
 | none => exact ⟨_, rfl, hH.newTight hl t⟩
 | some e =>
  have := z5e ht
  subst this; exact ⟨_, rfl, hH.newTag hl t⟩
theorem zzbq (hT : zc6 P C) (hH : zbf B N μ H w) {t : Nat} (h : zo9 t C e H = .val v H') : z2o P B N μ w ρ ⟨dst, .alloc t, type, pos, after, guard⟩ v H' := by
 have h := zd3 h
 simp only [zad] at h; obtain ⟨ty, hty, h⟩ := h
 cases h; obtain ⟨z, hz, _, hzl⟩ := (hT.facts hty).zero (μ := μ)
 obtain ⟨i, hi, hn⟩ := hH.newVar (C := C) (t := t) hzl
 refine ⟨.pointer (some ⟨w.heap.size, 0, none⟩), w.alloc (.cells z.cells t), _, .inl ?_, hH.ext_le, by rwa [Array.toArray_toList] at hn, zcd hH.size _, by rw [zan]; exact ⟨_, Mu.ext_same, by rw [hi]⟩⟩
 simp only [execOp, Instr.alloc, Sem.run_bind, hz, Result.andThen_ok, zkk, Sem.run_pure]
theorem zzj5 (hH : zbf B N μ H w) (hE : zhp μ e ρ) {t : Nat} {x : Operand} (h : zzfn t x C e H = .val v H') : z2o P B N μ w ρ ⟨dst, .box t x, type, pos, after, guard⟩ v H' := by
 have h := zd3 h
 simp only [zad] at h; obtain ⟨a, ha, h⟩ := h
 cases h; obtain ⟨i, hi, hn⟩ := hH.newVar (C := C) (t := t) (znb (hE _ _ ha))
 refine ⟨.pointer (some ⟨w.heap.size, 0, none⟩), w.alloc (.cells (ρ x).cells t), _, .inl ?_, hH.ext_le, by rwa [Array.toArray_toList] at hn, zcd hH.size _, by rw [zan]; exact ⟨_, Mu.ext_same, by rw [hi]⟩⟩
 simp only [execOp, Instr.box, Sem.run_bind, zkk, Result.andThen_ok, Sem.run_pure]
theorem zq7 (z : List zab) : ∀ n, (zvx z n).length = n * z.length := by
 intro n; induction n with
 | zero => simp [zvx]
 | succ n ih => rw [zvx, zb7, yah, ih, yap]; omega
theorem zzec (z : List zab) : ∀ (n j : Nat), j < n * z.length -> (zvx z n)[j]? = z[j % z.length]? := by
 intro n; induction n with
 | zero => intro j hj; simp at hj
 | succ n ih =>
  intro j hj; rw [zvx, zb7]; by_cases h : j < z.length
  ·rw [ybp h, Nat.mod_eq_of_lt h]
  ·rw [yaq (by omega), ih _ (by rw [yap] at hj; omega)]
   congr 1
   rw [Nat.mod_eq_sub_mod (by omega : z.length <= j)]
theorem z0y {z : List zab} {zv : Array Value} (hz : zbk μ z zv.toList) (n : Nat) : zbk μ (zvx z n) ((Array.range (n * z.length)).map (zv[· % zv.size]!)).toList := by
 have hl := hz.length
 simp only [yca] at hl; refine zbk.mk (by simp [zq7]) fun j a v ha hv => ?_
 have hj : j < n * z.length := by rw [<- zq7]; exact (yad.1 ha).1
 rw [zzec z n j hj] at ha; obtain ⟨u, hu, hr⟩ := hz.get ha
 have hpos : 0 < z.length := by
  rcases Nat.eq_zero_or_pos z.length with h0 | h0
  ·rw [h0] at hj; simp at hj
  ·exact h0
 have hm : j % z.length < z.length := ybz _ hpos
 simp only [Array.toList_map, yav, Array.toList_range, List.getElem?_range hj, Option.map_some, Option.some.injEq] at hv; rw [<- hv, hl]; have : zv[j % z.length]! = u := by
  have h1 : zv[j % z.length]? = some u := by simpa using hu
  rw [getElem!_def, h1]
 rw [this]; exact hr
theorem ztj (hT : zc6 P C) (hH : zbf B N μ H w) (hE : zhp μ e ρ) {t len : Nat} {parts : Array (Nat × Operand)} (h : zeb t len parts C e H = .val v H') : z2o P B N μ w ρ ⟨dst, .buildSlice t len parts, type, pos, after, guard⟩ v H' := by
 have h := zd3 h
 simp only [zad, zae, yac, zc8, zcy, za1] at h; obtain ⟨ty, hty, el, hel, et, het, ⟨hlt, hzs⟩, ps, hps, l, hl, h⟩ := h
 cases h; have hF := hT.facts het
 obtain ⟨z, hz, _, hzl⟩ := hF.zero (μ := μ)
 have hzlen := hzl.length
 simp only [yca] at hzlen; have hrel := z0y hzl len
 rw [hzs] at hrel; obtain ⟨out, ho, hr⟩ := zp8 (hE.parts hps) hrel hl
 have hol : out.size = l.length := by simpa using hr.length
 refine ⟨.slice (some ⟨w.heap.size, 0, none⟩) len len, w.alloc (.cells out el), _, .inl ?_, hH.ext_le, by have := hH.newTight hr el; rwa [Array.toArray_toList] at this, zcd hH.size _, ?_⟩
 ·have h1 : ¬ len * et.size > 2 ^ 24 := by omega
  by_cases h0 : len * et.size = 0
  ·have harr : ((Array.range (len * et.size)).map ((#[] : Array Value)[· % (#[] : Array Value).size]!)) = (Array.range (len * et.size)).map (z.cells[· % z.cells.size]!) := by rw [h0]; simp
   simp only [execOp, Instr.buildSlice, Sem.run_bind, za7 (zc1 (hT.facts hty) hel), Result.andThen_ok, hF.size, if_neg h1, if_pos h0, Sem.run_pure, harr, Array.toList_map, ho, zei]
  ·simp only [execOp, Instr.buildSlice, Sem.run_bind, za7 (zc1 (hT.facts hty) hel), Result.andThen_ok, hF.size, if_neg h1, if_neg h0, Sem.run_pure, hz, Array.toList_map, ho, zei]
 ·rw [zan]; exact .inl ⟨_, len, Mu.ext_same, rfl, yal _, fun _ => rfl, fun h => by cases h⟩
theorem zzfs (hT : zc6 P C) (hE : zhp μ e ρ) (o : Oper) (hf : zeo o.op = true) (hlo : zzeu C o.op = none) (h : (aop o.op).f C e H = .val v H') :
  ∃ l vs v' elem, H' = za0 H l none /\ (execOp ρ o).run P w = .ok (.value v') (w.alloc (.cells vs elem)) /\ zbk μ l vs.toList /\ ∀ (ν : Mu) (i : BI), ν H.next = some i -> i.b = w.heap.size -> i.tight = true -> zan ν v v' := by
 obtain ⟨dst, op, type, pos, after, guard⟩ := o
 cases op <;> first | (simp [zeo] at hf; done) | skip
 case alloc t =>
  have h := zd3 (show zo9 t C e H = .val v H' from h)
  rw [show zh7 C t = none from hlo] at h; simp only [zad] at h; obtain ⟨ty, hty, h⟩ := h
  cases h; obtain ⟨z, hz, _, hzl⟩ := (hT.facts hty).zero (μ := μ)
  refine ⟨_, z.cells, .pointer (some ⟨w.heap.size, 0, none⟩), t, rfl, ?_, hzl, fun ν i h1 h2 _ => by rw [zan]; exact ⟨i, h1, by rw [h2]⟩⟩
  simp only [execOp, Instr.alloc, Sem.run_bind, hz, Result.andThen_ok, zkk, Sem.run_pure]
 case box t x =>
  have h := zd3 (show zzfn t x C e H = .val v H' from h)
  rw [show zh7 C t = none from hlo] at h; simp only [zad] at h; obtain ⟨a, ha, h⟩ := h
  cases h; refine ⟨_, (ρ x).cells, .pointer (some ⟨w.heap.size, 0, none⟩), t, rfl, ?_, znb (hE _ _ ha), fun ν i h1 h2 _ => by rw [zan]; exact ⟨i, h1, by rw [h2]⟩⟩
  simp only [execOp, Instr.box, Sem.run_bind, zkk, Result.andThen_ok, Sem.run_pure]
 case buildSlice t len parts =>
  have h := zd3 (show zeb t len parts C e H = .val v H' from h)
  simp only [zad, zae, yac, zc8, zcy, za1] at h; obtain ⟨ty, hty, el, hel, et, het, ⟨hlt, hzs⟩, ps, hps, l, hl, h⟩ := h
  cases h; have hF := hT.facts het
  obtain ⟨z, hz, _, hzl⟩ := hF.zero (μ := μ)
  have hrel := z0y hzl len
  rw [hzs] at hrel; obtain ⟨out, ho, hr⟩ := zp8 (hE.parts hps) hrel hl
  refine ⟨_, out, .slice (some ⟨w.heap.size, 0, none⟩) len len, el, rfl, ?_, hr, fun ν i h1 h2 h3 => by rw [zan]; exact .inl ⟨i, len, h1, by rw [h2], yal _, fun _ => rfl, fun h => by rw [h3] at h; cases h⟩⟩
  have h1 : ¬ len * et.size > 2 ^ 24 := by omega
  by_cases h0 : len * et.size = 0
  ·have harr : ((Array.range (len * et.size)).map ((#[] : Array Value)[· % (#[] : Array Value).size]!)) = (Array.range (len * et.size)).map (z.cells[· % z.cells.size]!) := by rw [h0]; simp
   simp only [execOp, Instr.buildSlice, Sem.run_bind, za7 (zc1 (hT.facts hty) hel), Result.andThen_ok, hF.size, if_neg h1, if_pos h0, Sem.run_pure, harr, Array.toList_map, ho, zei]
  ·simp only [execOp, Instr.buildSlice, Sem.run_bind, za7 (zc1 (hT.facts hty) hel), Result.andThen_ok, hF.size, if_neg h1, if_neg h0, Sem.run_pure, hz, Array.toList_map, ho, zei]
theorem z6i {o : Op} (hf : zeo o = true) (hlo : zzeu C o = none) (h : (aop o).f C e H = .val v H') : ∃ l, H' = za0 H l none := by
 cases o <;> first | (simp [zeo] at hf; done) | skip
 case alloc t =>
  have h := zd3 (show zo9 t C e H = .val v H' from h)
  rw [show zh7 C t = none from hlo] at h; simp only [zad] at h; obtain ⟨ty, hty, h⟩ := h
  cases h; exact ⟨_, rfl⟩
 case box t x =>
  have h := zd3 (show zzfn t x C e H = .val v H' from h)
  rw [show zh7 C t = none from hlo] at h; simp only [zad] at h; obtain ⟨a, ha, h⟩ := h
  cases h; exact ⟨_, rfl⟩
 case buildSlice t len parts =>
  have h := zd3 (show zeb t len parts C e H = .val v H' from h)
  simp only [zad, zae] at h; obtain ⟨ty, hty, el, hel, et, het, _, ps, hps, l, hl, h⟩ := h
  cases h; exact ⟨_, rfl⟩
theorem z1r {e' : Env} (h : ∀ x, ev x e = ev x e') {o : Op} (hf : zeo o = true) (H : zaf) : (aop o).f C e H = (aop o).f C e' H := by
 cases o <;> first | (simp [zeo] at hf; done) | rfl | skip
 case box t x => show zzfn t x C e H = zzfn t x C e' H; simp only [zzfn, h]
 case buildSlice t len ps => show zeb t len ps C e H = zeb t len ps C e' H; simp only [zeb, evp, h]
theorem zyy (hT : zc6 P C) (hbase : B <= C.base) (hH : zbf B N μ H w) (hE : zhp μ e ρ) {t : Nat} {a x : Operand} (h : zyz t a x C e H = .val v H') : z2o P B N μ w ρ ⟨dst, .store t a x, type, pos, after, guard⟩ v H' := by
 have h := zd3 h
 simp only [zad, zae, zcy, za1, zf1] at h; obtain ⟨ty, hty, av, ha, p, rfl, xv, hx, hs, H1, h1, h⟩ := h
 cases h; have hF := hT.facts hty
 have hp := hE _ _ ha
 rw [zan] at hp; obtain ⟨i, hi, hpv⟩ := hp
 have hc := znb (hE _ _ hx)
 obtain ⟨w', h2, h3, h4⟩ := zxp (P := P) hbase hH h1 hi hc
 have hcl := hc.length
 simp only [yca] at hcl; refine ⟨undef, w', μ, .inr ⟨?_, rfl⟩, μ.le_refl, h3, h4, zxi⟩
 have h5 : ¬ (ρ x).cells.size ≠ ty.size := by omega
 simp only [execOp, Instr.storeAt, hpv, Instr.sureAddr, Sem.run_bind, Sem.run_pure, Result.andThen_ok, storeVar, hF.size, Sem.run_ite, if_neg h5, h2]
theorem z1o (hH : zbf B N μ H w) {t : Nat} {r : Option Operand} (h : zm1 r C e H = .val v H') : z2o P B N μ w ρ ⟨dst, .makeMap t r, type, pos, after, guard⟩ v H' := by
 unfold zm1 at h; split at h
 ·injection h with h1 h2
  subst h1 h2
  refine ⟨.map (some w.heap.size), w.alloc (.map #[] 0), _, .inl ?_, hH.ext_le, hH.newBlk (i := ⟨w.heap.size, true, 0, 0, false⟩) rfl rfl ⟨#[], 0, [], rfl, .inl rfl, .nil⟩, zcd hH.size _, by rw [zan]; exact ⟨_, Mu.ext_same, rfl⟩⟩
  simp [execOp, Instr.makeMap]
 ·cases h
theorem zwj (hT : zc6 P C) (hH : zbf B N μ H w) (hE : zhp μ e ρ) {t : Nat} {l c : Operand} (h : zof t l c C e H = .val v H') : z2o P B N μ w ρ ⟨dst, .makeSlice t l c, type, pos, after, guard⟩ v H' := by
 have h := zd3 h
 simp only [zad, zae, yac, zh2, zc8, zcy, za1, zkz] at h; obtain ⟨ty, hty, el, hel, et, het, lv', hl, ln, ⟨k1, rfl⟩, cv, hc, cn, ⟨k2, rfl⟩, ⟨⟨⟨h1, h2⟩, h3⟩, h4⟩, h⟩ := h
 cases h; have hF := hT.facts het
 obtain ⟨z, hz, _, hzl⟩ := hF.zero (μ := μ)
 have hrel := z0y hzl cn
 rw [h4] at hrel; have hlv := hE _ _ hl
 rw [zan] at hlv; have hcv := hE _ _ hc
 rw [zan] at hcv; obtain ⟨inf, hinf, hsz, hby, _⟩ := hF.info
 refine ⟨.slice (some ⟨w.heap.size, 0, none⟩) ln cn, w.alloc (.cells ((Array.range (cn * et.size)).map (z.cells[· % z.cells.size]!)) el), _, .inl ?_, hH.ext_le, by have := hH.newTight hrel el; rwa [Array.toArray_toList] at this, zcd hH.size _, ?_⟩
 ·have hw1 : IntKind.i64.wrap (ln : Int) = ln := zfp (by simp [kHi]; omega)
  have hw2 : IntKind.i64.wrap (cn : Int) = cn := zfp (by simp [kHi]; omega)
  have hb : (et.bytes : Int) * (cn : Int) = ((cn * et.bytes : Nat) : Int) := by rw [Int.mul_comm]; simp
  have hc1 : (((cn : Int) < 0 || decide ((et.bytes : Int) * (cn : Int) > 2 ^ 48)) || decide ((ln : Int) < 0) || decide ((ln : Int) > (cn : Int))) = false := by
   rw [hb]; simp; omega
  have hnn : ¬ ((((cn : Int) < 0 || decide ((et.bytes : Int) * (cn : Int) > 2 ^ 48)) || decide ((ln : Int) < 0) || decide ((ln : Int) > (cn : Int))) = true) := by rw [hc1]; simp
  by_cases h0 : cn * et.size = 0
  ·have harr : ((Array.range (cn * et.size)).map ((#[] : Array Value)[· % (#[] : Array Value).size]!)) = (Array.range (cn * et.size)).map (z.cells[· % z.cells.size]!) := by rw [h0]; simp
   simp only [execOp, Instr.makeSlice, Sem.run_bind, za7 (zc1 (hT.facts hty) hel), Result.andThen_ok, hlv, hcv, asInt, asIntOf, Sem.run_pure, zi3 hinf, hby, hw1, hw2, if_neg hnn, run_askRoom, hF.size, Int.toNat_natCast, if_pos h0, harr, zei]
  ·simp only [execOp, Instr.makeSlice, Sem.run_bind, za7 (zc1 (hT.facts hty) hel), Result.andThen_ok, hlv, hcv, asInt, asIntOf, Sem.run_pure, zi3 hinf, hby, hw1, hw2, if_neg hnn, run_askRoom, hF.size, Int.toNat_natCast, if_neg h0, hz, zei]
 ·rw [zan]; exact .inl ⟨_, cn, Mu.ext_same, rfl, yal _, fun _ => rfl, fun h => by cases h⟩
end
end Go.Am
