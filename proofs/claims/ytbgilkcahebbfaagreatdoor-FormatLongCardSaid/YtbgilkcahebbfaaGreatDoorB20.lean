/- Facts on types. (Printed by a tool.) -/
import Derived.Test.YtbgilkcahebbfaaGreatDoorB19
set_option linter.all false
noncomputable section
set_option maxRecDepth 100000
namespace Go.Proofs
open Go Go.Am
variable [zcb]
theorem ty3 : C13.tys.get 3 = some ⟨(.int .i64), 1, 8, [.int .i64 0], true⟩ := by kernel_rfl
theorem ty4 : C13.tys.get 4 = some ⟨.bool, 1, 1, [.bool false], true⟩ := by kernel_rfl
theorem ty5 : C13.tys.get 5 = some ⟨(.int .u8), 1, 1, [.int .u8 0], true⟩ := by kernel_rfl
theorem ty9 : C13.tys.get 9 = some ⟨.string, 1, 16, [.str []], true⟩ := by kernel_rfl
theorem ty22 : C13.tys.get 22 = some ⟨(.slice 50), 1, 24, [.nilslice], true⟩ := by kernel_rfl
theorem ty24 : C13.tys.get 24 = some ⟨(.struct [(0, 4, 1), (1, 22, 1)]), 2, 32, [.bool false, .nilslice], true⟩ := by kernel_rfl
theorem ty29 : C13.tys.get 29 = some ⟨(.slice 31), 1, 24, [.nilslice], true⟩ := by kernel_rfl
theorem ty31 : C13.tys.get 31 = some ⟨(.struct [(0, 5, 1), (1, 9, 1), (2, 28, 6), (8, 29, 1)]), 9, 128, [.int .u8 0, .str [], .int .u8 0, .bool false, .nilslice, .bool false, .nilslice, .int .i64 0, .nilslice], true⟩ := by kernel_rfl
theorem z8a : C13.tys.get 32 = some ⟨(.slice 5), 1, 24, [.nilslice], true⟩ := by kernel_rfl
theorem ty35 : C13.tys.get 35 = some ⟨(.int .i64), 1, 8, [.int .i64 0], true⟩ := by kernel_rfl
theorem ty41 : C13.tys.get 41 = some ⟨(.struct [(0, 9, 1), (1, 9, 1), (2, 3, 1), (3, 3, 1), (4, 3, 1), (5, 4, 1), (6, 31, 9), (15, 31, 9)]), 24, 320, [.str [], .str [], .int .i64 0, .int .i64 0, .int .i64 0, .bool false, .int .u8 0, .str [], .int .u8 0, .bool false, .nilslice, .bool false, .nilslice, .int .i64 0, .nilslice, .int .u8 0, .str [], .int .u8 0, .bool false, .nilslice, .bool false, .nilslice, .int .i64 0, .nilslice], true⟩ := by kernel_rfl
theorem ty42 : C13.tys.get 42 = some ⟨(.slice 41), 1, 24, [.nilslice], true⟩ := by kernel_rfl
theorem ty43 : C13.tys.get 43 = some ⟨(.slice 114), 1, 24, [.nilslice], true⟩ := by kernel_rfl
theorem ty44 : C13.tys.get 44 = some ⟨(.slice 53), 1, 24, [.nilslice], true⟩ := by kernel_rfl
theorem ty46 : C13.tys.get 46 = some ⟨(.struct [(0, 9, 1), (1, 43, 1), (2, 44, 1), (3, 42, 1)]), 4, 88, [.str [], .nilslice, .nilslice, .nilslice], true⟩ := by kernel_rfl
theorem ty50 : C13.tys.get 50 = some ⟨(.int .u16), 1, 2, [.int .u16 0], true⟩ := by kernel_rfl
theorem ty51 : C13.tys.get 51 = some ⟨(.slice 55), 1, 24, [.nilslice], true⟩ := by kernel_rfl
theorem ty53 : C13.tys.get 53 = some ⟨(.struct [(0, 9, 1), (1, 4, 1), (2, 51, 1)]), 3, 48, [.str [], .bool false, .nilslice], true⟩ := by kernel_rfl
theorem ty55 : C13.tys.get 55 = some ⟨(.struct [(0, 3, 1), (1, 3, 1), (2, 3, 1), (3, 26, 4)]), 7, 88, [.int .i64 0, .int .i64 0, .int .i64 0, .bool false, .nilslice, .bool false, .nilslice], true⟩ := by kernel_rfl
theorem ty59 : C13.tys.get 59 = some ⟨.func, 1, 8, [.nilfunc], true⟩ := by kernel_rfl
theorem ty77 : C13.tys.get 77 = some ⟨(.struct [(0, 75, 1), (1, 32, 1)]), 2, 32, [.nilptr, .nilslice], true⟩ := by kernel_rfl
theorem ty106 : C13.tys.get 106 = some ⟨(.struct [(0, 5, 1), (1, 9, 1), (2, 4, 1), (3, 3, 1), (4, 3, 1), (5, 3, 1), (6, 3, 1), (7, 3, 1)]), 8, 72, [.int .u8 0, .str [], .bool false, .int .i64 0, .int .i64 0, .int .i64 0, .int .i64 0, .int .i64 0], true⟩ := by kernel_rfl
theorem ty114 : C13.tys.get 114 = some ⟨(.struct [(0, 9, 1), (1, 5, 1), (2, 4, 1)]), 3, 24, [.str [], .int .u8 0, .bool false], true⟩ := by kernel_rfl
theorem z8c : C13.tys.get 164 = some ⟨(.arr 10 5), 10, 10, [.int .u8 0, .int .u8 0, .int .u8 0, .int .u8 0, .int .u8 0, .int .u8 0, .int .u8 0, .int .u8 0, .int .u8 0, .int .u8 0], true⟩ := by kernel_rfl
theorem ty180 : C13.tys.get 180 = some ⟨(.map 3 9), 1, 8, [.nilmap], true⟩ := by kernel_rfl
theorem z8b : C13.tys.get 195 = some ⟨(.int .u64), 1, 8, [.int .u64 0], true⟩ := by kernel_rfl
theorem zmc : C13.tys.get 200 = some ⟨(.slice 202), 1, 24, [.nilslice], true⟩ := by kernel_rfl
theorem zeq : C13.tys.get 202 = some ⟨(.int .u32), 1, 4, [.int .u32 0], true⟩ := by kernel_rfl
theorem ty220 : C13.tys.get 220 = some ⟨(.arr 12 3), 12, 96, [.int .i64 0, .int .i64 0, .int .i64 0, .int .i64 0, .int .i64 0, .int .i64 0, .int .i64 0, .int .i64 0, .int .i64 0, .int .i64 0, .int .i64 0, .int .i64 0], true⟩ := by kernel_rfl
theorem ty237 : C13.tys.get 237 = some ⟨(.slice 24), 1, 24, [.nilslice], true⟩ := by kernel_rfl
theorem sl22 : zpi C13 22 50 1 false := ⟨⟨_, ty22, rfl⟩, ⟨_, ty50, rfl, rfl⟩⟩
theorem sl29 : zpi C13 29 31 9 true := ⟨⟨_, ty29, rfl⟩, ⟨_, ty31, rfl, rfl⟩⟩
theorem sl32 : zpi C13 32 5 1 false := ⟨⟨_, z8a, rfl⟩, ⟨_, ty5, rfl, rfl⟩⟩
theorem sl42 : zpi C13 42 41 24 true := ⟨⟨_, ty42, rfl⟩, ⟨_, ty41, rfl, rfl⟩⟩
theorem sl43 : zpi C13 43 114 3 true := ⟨⟨_, ty43, rfl⟩, ⟨_, ty114, rfl, rfl⟩⟩
theorem sl44 : zpi C13 44 53 3 true := ⟨⟨_, ty44, rfl⟩, ⟨_, ty53, rfl, rfl⟩⟩
theorem sl51 : zpi C13 51 55 7 true := ⟨⟨_, ty51, rfl⟩, ⟨_, ty55, rfl, rfl⟩⟩
theorem zd0 : zpi C13 200 202 1 false := ⟨⟨_, zmc, rfl⟩, ⟨_, zeq, rfl, rfl⟩⟩
theorem sl237 : zpi C13 237 24 2 true := ⟨⟨_, ty237, rfl⟩, ⟨_, ty24, rfl, rfl⟩⟩
end Go.Proofs
namespace Go.Am
open Go Go.RowKit
def zif (l : List Nat) : List D := l.map fun (n : Nat) => D.int .u16 (n : Int)
theorem zqb (l : List Nat) : (zif l).length = l.length := by simp [zif]
structure zew where
 neg : Bool
 limbs : List Nat
def zew.d (w : zew) : D := .st [.bool w.neg, .sl 1 (zif w.limbs)]
structure zd5 where
 n : zew
 d : zew
def zd5.dd (f : zd5) : D := .st [f.n.d, f.d.d]
structure zzy where
 kind : Nat
 f : zd5
 i : Int
def zzy.d (v : zzy) : D := .st [.int .u8 v.kind, v.f.dd, .int .i64 v.i]
inductive zcl where
 | mk (op : Nat) (name : List Nat) (v : zzy) (args : List zcl)
def zcl.op : zcl -> Nat | .mk o _ _ _ => o
def zcl.name : zcl -> List Nat | .mk _ n _ _ => n
def zcl.v : zcl -> zzy | .mk _ _ v _ => v
def zcl.args : zcl -> List zcl | .mk _ _ _ a => a
mutual
def zcl.d : zcl -> D
 | .mk op name v args => .st [.int .u8 op, .str name, v.d, .sl 9 (zcl.ds args)]
def zcl.ds : List zcl -> List D
 | [] => []
 | x :: l => x.d :: zcl.ds l
end
theorem zcl.ds_eq (l : List zcl) : zcl.ds l = l.map zcl.d := by
 induction l with
 | nil => rfl
 | cons x l ih => simp [zcl.ds, ih]
structure ztm where
 a : Int
 b : Int
 known : Int
 f : zd5
def ztm.d (r : ztm) : D := .st [.int .i64 r.a, .int .i64 r.b, .int .i64 r.known, r.f.dd]
structure zfo where
 name : List Nat
 two : Bool
 rows : List ztm
def zfo.d (x : zfo) : D := .st [.str x.name, .bool x.two, .sl 7 (x.rows.map ztm.d)]
structure z2l where
 name : List Nat
 kind : Nat
 fact : Bool
def z2l.d (x : z2l) : D := .st [.str x.name, .int .u8 x.kind, .bool x.fact]
structure zet where
 name : List Nat
 label : List Nat
 from_ : Int
 to : Int
 known : Int
 off : Bool
 when_ : zcl
 then_ : zcl
def zet.d (x : zet) : D := .st [.str x.name, .str x.label, .int .i64 x.from_, .int .i64 x.to, .int .i64 x.known, .bool x.off, x.when_.d, x.then_.d]
structure zl7 where
 name : List Nat
 defs : List z2l
 tables : List zfo
 clauses : List zet
def zl7.d (x : zl7) : D := .st [.str x.name, .sl 3 (x.defs.map z2l.d), .sl 3 (x.tables.map zfo.d), .sl 24 (x.clauses.map zet.d)]
section
variable {t : Tr zak} {cs : List zab}
theorem zvy {w : zew} (h : RD t w.d cs) : ∃ v, cs = [.bool w.neg, v] /\ RSl t 1 (zif w.limbs) v := by
 unfold zew.d at h; simp only [zi2, zba, zcr, zl8, zke] at h; obtain ⟨cl, rfl, c, r, rfl, rfl, c', r', rfl, ⟨v, rfl, h⟩, rfl⟩ := h
 exact ⟨v, rfl, h⟩
theorem z9j {f : zd5} (h : RD t f.dd cs) : ∃ u v, cs = [.bool f.n.neg, u, .bool f.d.neg, v] /\ RSl t 1 (zif f.n.limbs) u /\ RSl t 1 (zif f.d.limbs) v := by
 unfold zd5.dd at h; simp only [zi2, zba, zcr] at h; obtain ⟨cl, rfl, c, r, rfl, h1, c', r', rfl, h2, rfl⟩ := h
 obtain ⟨u, rfl, h3⟩ := zvy h1
 obtain ⟨v, rfl, h4⟩ := zvy h2
 exact ⟨u, v, rfl, h3, h4⟩
theorem rd_val {v : zzy} (h : RD t v.d cs) : ∃ a b, cs = [.int .u8 v.kind, .bool v.f.n.neg, a, .bool v.f.d.neg, b, .int .i64 v.i] /\ RSl t 1 (zif v.f.n.limbs) a /\ RSl t 1 (zif v.f.d.limbs) b := by
 unfold zzy.d at h; simp only [zi2, zba, zcr, zkd] at h; obtain ⟨cl, rfl, c, r, rfl, rfl, c', r', rfl, h2, c'', r'', rfl, rfl, rfl⟩ := h
 obtain ⟨a, b, rfl, h3, h4⟩ := z9j h2
 exact ⟨a, b, rfl, h3, h4⟩
theorem zq8 {x : zcl} (h : RD t x.d cs) : ∃ a b c, cs = [.int .u8 x.op, .str x.name, .int .u8 x.v.kind, .bool x.v.f.n.neg, a, .bool x.v.f.d.neg, b, .int .i64 x.v.i, c] ∧
  RSl t 1 (zif x.v.f.n.limbs) a /\ RSl t 1 (zif x.v.f.d.limbs) b /\ RSl t 9 (x.args.map zcl.d) c := by
 obtain ⟨op, name, v, args⟩ := x
 unfold zcl.d at h; rw [zcl.ds_eq] at h; simp only [zi2, zba, zcr, zkd, zpj, zl8] at h; obtain ⟨cl, rfl, c, r, rfl, rfl, c', r', rfl, rfl, c'', r'', rfl, hv, c3, r3, rfl, ⟨w, rfl, h4⟩, rfl⟩ := h
 obtain ⟨a, b, rfl, h5, h6⟩ := rd_val hv
 exact ⟨a, b, w, rfl, h5, h6, h4⟩
theorem zzhc {r : ztm} (h : RD t r.d cs) : ∃ a b, cs = [.int .i64 r.a, .int .i64 r.b, .int .i64 r.known, .bool r.f.n.neg, a, .bool r.f.d.neg, b] /\ RSl t 1 (zif r.f.n.limbs) a /\ RSl t 1 (zif r.f.d.limbs) b := by
 unfold ztm.d at h; simp only [zi2, zba, zcr, zkd] at h; obtain ⟨cl, rfl, c, r, rfl, rfl, c', r', rfl, rfl, c'', r'', rfl, rfl, c3, r3, rfl, hf, rfl⟩ := h
 obtain ⟨a, b, rfl, h3, h4⟩ := z9j hf
 exact ⟨a, b, rfl, h3, h4⟩
theorem z3e {x : zfo} (h : RD t x.d cs) : ∃ a, cs = [.str x.name, .bool x.two, a] /\ RSl t 7 (x.rows.map ztm.d) a := by
 unfold zfo.d at h; simp only [zi2, zba, zcr, zpj, zke, zl8] at h; obtain ⟨cl, rfl, c, r, rfl, rfl, c', r', rfl, rfl, c'', r'', rfl, ⟨a, rfl, h⟩, rfl⟩ := h
 exact ⟨a, rfl, h⟩
theorem rd_def {x : z2l} (h : RD t x.d cs) : cs = [.str x.name, .int .u8 x.kind, .bool x.fact] := by
 unfold z2l.d at h; simp only [zi2, zba, zcr, zpj, zke, zkd] at h; obtain ⟨cl, rfl, c, r, rfl, rfl, c', r', rfl, rfl, c'', r'', rfl, rfl, rfl⟩ := h
 rfl
def ztl (x : zcl) (a b c : zab) : List zab := [.int .u8 x.op, .str x.name, .int .u8 x.v.kind, .bool x.v.f.n.neg, a, .bool x.v.f.d.neg, b, .int .i64 x.v.i, c]
theorem z9k {x : zet} (h : RD t x.d cs) : ∃ a b c a' b' c', cs = [.str x.name, .str x.label, .int .i64 x.from_, .int .i64 x.to, .int .i64 x.known, .bool x.off] ++ ztl x.when_ a b c ++ ztl x.then_ a' b' c' ∧
  RD t x.when_.d (ztl x.when_ a b c) /\ RD t x.then_.d (ztl x.then_ a' b' c') := by
 unfold zet.d at h; simp only [zi2, zba, zcr, zpj, zke, zkd] at h; obtain ⟨cl, rfl, c1, r1, rfl, rfl, c2, r2, rfl, rfl, c3, r3, rfl, rfl, c4, r4, rfl, rfl, c5, r5, rfl, rfl, c6, r6, rfl, rfl, c7, r7, rfl, h7, c8, r8, rfl, h8, rfl⟩ := h
 obtain ⟨a, b, c, e1, _⟩ := zq8 h7
 obtain ⟨a', b', c', e2, _⟩ := zq8 h8
 subst e1 e2
 exact ⟨a, b, c, a', b', c', rfl, h7, h8⟩
theorem z9i {x : zl7} (h : RD t x.d cs) : ∃ a b c, cs = [.str x.name, a, b, c] /\ RSl t 3 (x.defs.map z2l.d) a /\ RSl t 3 (x.tables.map zfo.d) b /\ RSl t 24 (x.clauses.map zet.d) c := by
 unfold zl7.d at h; simp only [zi2, zba, zcr, zpj, zl8] at h; obtain ⟨cl, rfl, c1, r1, rfl, rfl, c2, r2, rfl, ⟨a, rfl, h1⟩, c3, r3, rfl, ⟨b, rfl, h2⟩, c4, r4, rfl, ⟨c, rfl, h3⟩, rfl⟩ := h
 exact ⟨a, b, c, rfl, h1, h2, h3⟩
end
theorem zew.zs (x : zew) : x.d.zs = [.bool false, .nilslice] := rfl
theorem zcl.zs (x : zcl) : x.d.zs = [.int .u8 0, .str [], .int .u8 0, .bool false, .nilslice, .bool false, .nilslice, .int .i64 0, .nilslice] := by cases x; rfl
theorem ztm.zs (x : ztm) : x.d.zs = [.int .i64 0, .int .i64 0, .int .i64 0, .bool false, .nilslice, .bool false, .nilslice] := rfl
theorem zfo.zs (x : zfo) : x.d.zs = [.str [], .bool false, .nilslice] := rfl
theorem z2l.zs (x : z2l) : x.d.zs = [.str [], .int .u8 0, .bool false] := rfl
theorem zet.zs (x : zet) : x.d.zs = [.str [], .str [], .int .i64 0, .int .i64 0, .int .i64 0, .bool false, .int .u8 0, .str [], .int .u8 0, .bool false, .nilslice, .bool false, .nilslice, .int .i64 0, .nilslice, .int .u8 0, .str [], .int .u8 0, .bool false, .nilslice, .bool false, .nilslice, .int .i64 0, .nilslice] := by
 obtain ⟨_, _, _, _, _, _, w, v⟩ := x; cases w; cases v; rfl
def zlk : Nat := 1125899906842624
def zd5.ok (f : zd5) : Prop := f.n.limbs.length < zlk /\ f.d.limbs.length < zlk
end Go.Am
namespace Go.Am
open Go Go.RowKit
theorem zbo {a b : Int} : (iLt a b = true) ↔ a < b := zoe a b
theorem zdc {a b : Int} : (iLe a b = true) ↔ a <= b := zwi a b
theorem z6v {α : Type} {l : List α} {i : Nat} {x : α} {r : List α} (h : l.drop i = x :: r) : l[i]? = some x /\ l.drop (i + 1) = r /\ i < l.length := by
 have h1 : (l.drop i)[0]? = some x := by rw [h]; rfl
 rw [ycf] at h1; have hi : i < l.length := by
  rcases Nat.lt_or_ge i l.length with hl | hl
  ·exact hl
  ·rw [yau hl] at h; cases h
 refine ⟨by simpa using h1, ?_, hi⟩
 have := List.drop_drop (l := l) (i := 1) (j := i)
 rw [h] at this; simpa [Nat.add_comm] using this.symm
theorem zzcb {α : Type} {l : List α} {i : Nat} (h : l.drop i = []) : l.length <= i := by
 rcases Nat.lt_or_ge i l.length with hl | hl
 ·have := congrArg List.length h; simp at this; omega
 ·exact hl
theorem zfg (l : List Nat) : (Int.ofNat (zbw l)) = (l.length : Int) := by rw [za1]; rfl
theorem zqn (cs : List zab) : znv true cs = .agg cs := rfl
end Go.Am
namespace Go.Am
open Go Go.RowKit
def za2 (k : IntKind) (l : List Nat) : List D := l.map fun (n : Nat) => D.int k (n : Int)
theorem zav {k : IntKind} (l : List Nat) : (za2 k l).length = l.length := by simp [za2]
theorem zzci {k : IntKind} {l : List Nat} {i x : Nat} (h : l[i]? = some x) : (za2 k l)[i]? = some (.int k (x : Int)) := by simp [za2, h]
theorem zuw {k : IntKind} {l : List Nat} {n : Nat} : (za2 k l).take n = za2 k (l.take n) := by simp [za2]
def Own (t : Tr zak) (b : Nat) (k : IntKind) (l : List Nat) : Prop := ∃ c, t.get b = some (.cells c l.length none) /\ ∀ (j : Nat) x, l[j]? = some x -> c.get j = some (.int k (x : Int))
def Off (b : Nat) (t t' : Tr zak) : Prop := ∀ c, c ≠ b -> t'.get c = t.get c
theorem Off.refl (b : Nat) (t : Tr zak) : Off b t t := fun _ _ => rfl
theorem Off.trans {b : Nat} {x y z : Tr zak} (h : Off b x y) (k : Off b y z) : Off b x z := fun c hc => (k c hc).trans (h c hc)
section
variable {t t' t0 : Tr zak} {C : Ctx} {b : Nat} {k : IntKind} {l : List Nat}
theorem Own.off (h : Own t b k l) {c : Nat} (hc : b ≠ c) (ho : Off c t t') : Own t' b k l := by
 obtain ⟨x, h1, h2⟩ := h; exact ⟨x, by rw [ho b hc]; exact h1, h2⟩
theorem Own.tle (h : Own t b k l) (ho : TLe t t') : Own t' b k l := by
 obtain ⟨x, h1, h2⟩ := h; exact ⟨x, ho _ _ h1, h2⟩
theorem TLe.off (h : TLe t0 t) (hb : t0.get b = none) (ho : Off b t t') : TLe t0 t' := by
 intro c y hc; rw [ho c (by intro e; rw [e, hb] at hc; cases hc)]
 exact h c y hc
theorem Own.slice (h : Own t b k l) {off n cap : Nat} (hn : off + n <= l.length) (hc : n <= cap) : RSl t 1 (za2 k ((l.drop off).take n)) (.slice b off n cap) := by
 obtain ⟨c, h1, h2⟩ := h
 refine ⟨((l.drop off).take n).map fun (x : Nat) => [.int k (x : Int)], .inr ⟨b, off, cap, ?_, ?_, ⟨c, _, none, h1, .inl rfl⟩, fun i cs hi => ?_⟩, ?_⟩
 ·congr 1; simp; omega
 ·simp; omega
 ·simp only [yav, Option.map_eq_some_iff] at hi
  obtain ⟨x, hx, rfl⟩ := hi
  refine ⟨rfl, c, _, none, h1, fun j a hj => ?_⟩
  cases j with
  | zero =>
   simp at hj; subst hj; rw [ycg] at hx; split at hx
   ·rw [ycf] at hx
    exact h2 (off + i * 1 + 0) x (by rw [show off + i * 1 + 0 = off + i by omega]; exact hx)
   ·cases hx
  | succ j => simp at hj
 ·refine RDs.mk (by simp [za2]) fun i d cs hd hc => ?_
  simp only [za2, yav, Option.map_eq_some_iff] at hd hc; obtain ⟨x, hx, rfl⟩ := hd
  obtain ⟨y, hy, rfl⟩ := hc
  rw [hx] at hy; cases hy; rfl
theorem Own.all (h : Own t b k l) {cap : Nat} (hc : l.length <= cap) : RSl t 1 (za2 k l) (.slice b 0 l.length cap) := by
 have := h.slice (off := 0) (n := l.length) (by omega) hc
 simpa using this
theorem zdb {T el sz : Nat} {agg : Bool} (h : zpi C T el sz agg) {off n cap i : Nat} (hi : i < n) : zah C T (.slice b off n cap) (.int .i64 (i : Int)) = some (.ptr b (off + i * sz)) := by
 obtain ⟨⟨y, hy1, hy2⟩, ⟨z, hz1, hz2, hz3⟩⟩ := h
 unfold zah; rw [hy1, zac]; have : (zab.int .i64 (i : Int)).asNat = some i := rfl
 rw [this, zac]; simp only [zab.asSlice]; rw [hy2, zac, hz1, zac, zc8.2 hi, hz2]; rfl
theorem Own.load (h : Own t b k l) {j x : Nat} (hj : l[j]? = some x) {ty : Nat} {y : ATy} (hy : C.tys.get ty = some y) (ha : y.desc.isAgg = false) : zau C ty ⟨0, t⟩ (.ptr b j) = some (.int k (x : Int)) := by
 obtain ⟨c, h1, h2⟩ := h
 unfold zau; simp only [zab.asPtr, zac]; rw [hy, zac]; unfold zaq; rw [h1, zac]; simp only [zak.asCells, zac]; unfold zob; rw [ha, cond_false]; exact h2 j x hj
theorem Own.store (h : Own t b k l) (hb : C.base <= b) {j : Nat} (hj : j < l.length) (x : Nat) {ty : Nat} {y : ATy} (hy : C.tys.get ty = some y) (hs : y.size = 1) :
  ∃ t', (∀ n, zbl C ty (.ptr b j) (.int k (x : Int)) ⟨n, t⟩ = some (zbh, ⟨n, t'⟩)) /\ Own t' b k (l.set j x) /\ Off b t t' := by
 obtain ⟨c, h1, h2⟩ := h
 refine ⟨t.set b (.cells (c.setMany [.int k (x : Int)] j) l.length none), fun n => ?_, ⟨c.setMany [.int k (x : Int)] j, ?_, fun i y hi => ?_⟩, fun d hd => ?_⟩
 ·unfold zbl
  rw [hy, zac]; simp only [zab.asPtr, zac, zab.cells, zab.asAgg]; rw [hs]; have e1 : Nat.beq (zbw [zab.int k (x : Int)]) 1 = true := rfl
  rw [e1, zam]; unfold zem zaq; have e2 : (!Nat.blt b C.base) = true := by
   cases hq : Nat.blt b C.base with
   | true => have := zc8.1 hq; omega
   | false => rfl
  rw [e2, zam, h1, zac]; simp only [zak.asCells, zac]; have e3 : Nat.ble (j + zbw [zab.int k (x : Int)]) l.length = true := zh2.2 hj
  have e4 : zd9 zab.one [zab.int k (x : Int)] = true := rfl
  rw [e3, e4]; rfl
 ·rw [Tr.get_set, if_pos rfl, yci]
 ·rw [Tr.get_setMany]
  rw [ybx] at hi; split at hi
  ·rename_i e
   subst e; rw [if_pos (by simp)]
   cases hi; simp
  ·rename_i e
   rw [if_neg (by simp; omega)]
   exact h2 i y hi
 ·rw [Tr.get_set, if_neg hd]
theorem zkn {T el : Nat} {y z : ATy} (hT : C.tys.get T = some y) (hel : y.desc.asSlice = some el) (hz : C.tys.get el = some z) (hzero : z.zero = [.int k 0]) (hs : z.size = 1) (hby : z.bytes <= 8) {n : Nat} (hn : n < 1000000) (hb : t.get b = none) :
  ∃ t', zda C T (.int .i64 (n : Int)) (.int .i64 (n : Int)) ⟨b, t⟩ = some (.slice b 0 n n, ⟨b + 1, t'⟩) /\ Own t' b k (List.replicate n 0) /\ TLe t t' /\ Off b t t' := by
 have hrep : ∀ n, zvx [zab.int k 0] n = List.replicate n (.int k 0) := by
  intro n; induction n with
  | zero => rfl
  | succ n ih => unfold zvx; rw [ih, zb7, List.replicate_succ]; rfl
 refine ⟨t.set b (.cells (Tr.ofList (zvx z.zero n)) (zbw (zvx z.zero n)) none), ?_, ⟨Tr.ofList (zvx z.zero n), ?_, fun j x hj => ?_⟩, fun c y' hc => ?_, fun c hc => ?_⟩
 ·unfold zda
  rw [hT, zac, hel, zac, hz, zac]; have e1 : (zab.int .i64 (n : Int)).asNat = some n := rfl
  rw [e1, zac, zac]; have e2 : (Nat.ble n n && Nat.blt n 1000000 && Nat.blt (n * z.bytes) 1000000000 && Nat.beq (zbw z.zero) z.size) = true := by
   rw [hzero, hs, show Nat.ble n n = true from zh2.2 (yal n), zc8.2 hn]
   have : n * z.bytes < 1000000000 := by
    have := ycc (Nat.le_of_lt hn) hby
    omega
   rw [zc8.2 this]; rfl
  rw [e2, zam]; rfl
 ·rw [Tr.get_set, if_pos rfl, hzero, hrep, za1]; simp
 ·rw [List.getElem?_replicate] at hj
  split at hj
  ·cases hj
   rw [Tr.get_ofList, hzero, hrep, List.getElem?_replicate]; rename_i e; rw [if_pos e]; rfl
  ·cases hj
 ·rw [Tr.get_set, if_neg (by intro e; rw [e, hb] at hc; cases hc)]; exact hc
 ·rw [Tr.get_set, if_neg hc]
end
end Go.Am
namespace Go.Am
def val (B : Nat) : List Nat -> Nat
 | [] => 0
 | a :: l => a + B * val B l
def zax (B : Nat) (l : List Nat) : Prop := ∀ x ∈ l, x < B
def norm (l : List Nat) : Prop := ∀ h : l ≠ [], l.getLast h ≠ 0
theorem zfq (B : Nat) : ∀ (l m : List Nat), val B (l ++ m) = val B l + B ^ l.length * val B m
 | [], m => by simp [val]
 | a :: l, m => by
  simp only [List.cons_append, val, zfq B l m, yao, Nat.pow_succ]; rw [yan, <- yak, yai B (B ^ l.length)]
  omega
theorem zgj {B : Nat} (hB : 0 < B) : ∀ {l : List Nat}, zax B l -> val B l < B ^ l.length
 | [], _ => by simp [val]
 | a :: l, h => by
  have h1 := h a (yaz)
  have h2 := zgj hB (l := l) fun x hx => h x (yas _ hx)
  simp only [val, yao, Nat.pow_succ]; have h3 : B * (val B l + 1) <= B * B ^ l.length := yaw B h2
  rw [yan, yai B (B ^ l.length)] at h3
  omega
theorem zdr (B : Nat) (l : List Nat) (n : Nat) : val B l = val B (l.take n) + B ^ (l.take n).length * val B (l.drop n) := by
 rw [<- zfq, List.take_append_drop]
theorem zel {B : Nat} {l : List Nat} (h : zax B l) (n : Nat) : zax B (l.take n) := fun x hx => h x (List.mem_of_mem_take hx)
theorem zu6 {B : Nat} {l : List Nat} (h : zax B l) (n : Nat) : zax B (l.drop n) := fun x hx => h x (List.mem_of_mem_drop hx)
theorem zzq {B : Nat} {l m : List Nat} (h : zax B l) (k : zax B m) : zax B (l ++ m) := fun x hx => (List.mem_append.1 hx).elim (h x) (k x)
def zc9 : List Nat -> List Nat
 | [] => []
 | a :: l => if zc9 l = [] /\ a = 0 then [] else a :: zc9 l
theorem zdl (B : Nat) : ∀ l : List Nat, val B (zc9 l) = val B l
 | [] => rfl
 | a :: l => by
  unfold zc9; have ih := zdl B l
  split
  ·rename_i h
   rw [h.1] at ih; have : val B l = 0 := by rw [<- ih]; rfl
   simp [val, this, h.2]
  ·simp [val, ih]
theorem zdz : ∀ l : List Nat, norm (zc9 l)
 | [] => fun h => (h rfl).elim
 | a :: l => by
  have ih := zdz l
  unfold zc9; split
  ·exact fun h => (h rfl).elim
  ·rename_i h
   intro hne; by_cases hs : zc9 l = []
   ·have ha : a ≠ 0 := fun e => h ⟨hs, e⟩
    simp [hs, ha]
   ·rw [List.getLast_cons hs]; exact ih hs
theorem zdf {B : Nat} : ∀ {l : List Nat}, zax B l -> zax B (zc9 l)
 | [], h => h
 | a :: l, h => by
  have ih := zdf (l := l) fun x hx => h x (yas _ hx)
  unfold zc9; split
  ·exact fun x hx => (by cases hx)
  ·exact fun x hx => (yat.1 hx).elim (fun e => e ▸ h a yaz) (ih x)
theorem zqt : ∀ l : List Nat, (zc9 l).length <= l.length
 | [] => yal _
 | a :: l => by unfold zc9; have := zqt l; split <;> simp <;> omega
theorem zny : ∀ l : List Nat, zc9 (l ++ [0]) = zc9 l
 | [] => by simp [zc9]
 | a :: l => by
  show (if zc9 (l ++ [0]) = [] /\ a = 0 then [] else a :: zc9 (l ++ [0])) = _
  rw [zny l]; rfl
theorem zih : ∀ {l : List Nat}, norm l -> zc9 l = l
 | [], _ => rfl
 | a :: l, h => by
  have hl : norm l := by
   intro hne; have := h (by simp)
   rw [List.getLast_cons hne] at this; exact this
  unfold zc9; rw [zih hl]; split
  ·rename_i e
   have := h (by simp)
   obtain ⟨rfl, rfl⟩ := e
   simp at this
  ·rfl
theorem zi7 {B : Nat} (hB : 0 < B) {l : List Nat} (h : norm l) (h0 : val B l = 0) : l = [] := by
 have key : ∀ l : List Nat, val B l = 0 -> ∀ x ∈ l, x = 0 := by
  intro l; induction l with
  | nil => intro _ x hx; cases hx
  | cons a l ih =>
   intro h x hx; simp only [val] at h; have ha : a = 0 := by omega
   have hm : B * val B l = 0 := by omega
   have hl : val B l = 0 := by
    rcases Nat.mul_eq_zero.1 hm with e | e
    ·omega
    ·exact e
   rcases yat.1 hx with rfl | hx
   ·exact ha
   ·exact ih hl x hx
 rcases List.eq_nil_or_concat l with e | ⟨m, a, e⟩
 ·exact e
 ·exfalso
  subst e; have := h (by simp)
  simp at this; exact this (key _ h0 a (by simp))
theorem z7v {B : Nat} {l : List Nat} (h : norm l) (hne : l ≠ []) : B ^ (l.length - 1) <= val B l := by
 rcases List.eq_nil_or_concat l with e | ⟨m, a, e⟩
 ·exact absurd e hne
 ·rw [List.concat_eq_append] at e
  subst e; have := h (by simp)
  simp at this; rw [zfq]; simp only [yah, yao, yay, val]; have : 1 <= a + B * 0 := by omega
  calc B ^ (m.length + 1 - 1) = B ^ m.length * 1 := by simp
   _ <= B ^ m.length * (a + B * 0) := yaw _ this
   _ <= _ := Nat.le_add_left _ _
theorem z7u {B : Nat} (hB : 0 < B) : ∀ {l m : List Nat}, zax B l -> zax B m -> l.length = m.length -> val B l = val B m -> l = m
 | [], [], _, _, _, _ => rfl
 | a :: l, b :: m, h1, h2, hl, hv => by
  have ha := h1 a yaz
  have hb := h2 b yaz
  simp only [val] at hv; have e1 : a = b := by
   have := congrArg (· % B) hv
   simp only [Nat.add_mul_mod_self_left, Nat.mod_eq_of_lt ha, Nat.mod_eq_of_lt hb] at this; exact this
  subst e1; have e2 : val B l = val B m := by
   have : B * val B l = B * val B m := by omega
   exact Nat.eq_of_mul_eq_mul_left hB this
  rw [z7u hB (fun x hx => h1 x (yas _ hx)) (fun x hx => h2 x (yas _ hx)) (by simpa using hl) e2]
 | [], _ :: _, _, _, h, _ => by simp at h
 | _ :: _, [], _, _, h, _ => by simp at h
theorem zfe {B : Nat} (hB : 1 < B) {l m : List Nat} (h1 : zax B l) (h3 : norm m) (hv : val B m <= val B l) : m.length <= l.length := by
 by_cases hm : m = []
 ·simp [hm]
 ·have a := z7v (B := B) h3 hm
  have b := zgj (by omega) h1
  have : B ^ (m.length - 1) < B ^ l.length := by omega
  have := (Nat.pow_lt_pow_iff_right hB).1 this
  omega
theorem zzer {B : Nat} (hB : 1 < B) {l m : List Nat} (h1 : zax B l) (h2 : zax B m) (h3 : norm l) (h4 : norm m) (hv : val B l = val B m) : l = m := by
 have a := zfe hB h1 h4 (by omega)
 have b := zfe hB h2 h3 (by omega)
 exact z7u (by omega) h1 h2 (by omega) hv
def zwv (a b : List Nat) : Int := if a.length ≠ b.length then (if a.length < b.length then -1 else 1) else go a b
where go : List Nat -> List Nat -> Int
 | a :: l, b :: m => if go l m ≠ 0 then go l m else if a < b then -1 else if b < a then 1 else 0
 | _, _ => 0
theorem zzcn {B : Nat} : ∀ {a b : List Nat}, zax B a -> zax B b -> a.length = b.length -> (zwv.go a b < 0 ↔ val B a < val B b) /\ (zwv.go a b = 0 ↔ val B a = val B b)
 | [], [], _, _, _ => by simp [zwv.go, val]
 | a :: l, b :: m, h1, h2, hl => by
  have ha := h1 a yaz
  have hb := h2 b yaz
  obtain ⟨i1, i2⟩ := zzcn (a := l) (b := m) (fun x hx => h1 x (yas _ hx)) (fun x hx => h2 x (yas _ hx)) (by simpa using hl)
  have lt_of : ∀ {x y : Nat}, x < y -> ∀ u v, u < B -> u + B * x < v + B * y := by
   intro x y h u v hu; have : B * (x + 1) <= B * y := yaw B h
   rw [yan] at this; omega
  unfold zwv.go; simp only [val]; by_cases h0 : zwv.go l m = 0
  ·have e := i2.1 h0
   rw [if_neg (by simpa using h0), e]
   by_cases c1 : a < b
   ·rw [if_pos c1]; constructor <;> constructor <;> intro h <;> omega
   ·rw [if_neg c1]
    by_cases c2 : b < a
    ·rw [if_pos c2]; constructor <;> constructor <;> intro h <;> omega
    ·rw [if_neg c2]; constructor <;> constructor <;> intro h <;> omega
  ·rw [if_pos h0]
   constructor
   ·rw [i1]
    constructor
    ·intro h; exact lt_of h a b ha
    ·intro h
     rcases Nat.lt_trichotomy (val B l) (val B m) with g | g | g
     ·exact g
     ·exact absurd (i2.2 g) h0
     ·have := lt_of g b a hb; omega
   ·constructor
    ·intro h; exact absurd h h0
    ·intro h
     rcases Nat.lt_trichotomy (val B l) (val B m) with g | g | g
     ·have := lt_of g a b ha; omega
     ·exact i2.2 g
     ·have := lt_of g b a hb; omega
 | [], _ :: _, _, _, h => by simp at h
 | _ :: _, [], _, _, h => by simp at h
theorem zzcm {B : Nat} (hB : 1 < B) {a b : List Nat} (h1 : zax B a) (h2 : zax B b) (h3 : norm a) (h4 : norm b) : zwv a b < 0 ↔ val B a < val B b := by
 unfold zwv; by_cases hl : a.length = b.length
 ·rw [if_neg (by simpa using hl)]; exact (zzcn h1 h2 hl).1
 ·rw [if_pos hl]
  by_cases hlt : a.length < b.length
  ·rw [if_pos hlt]
   refine ⟨fun _ => ?_, fun _ => by omega⟩
   rcases Nat.lt_or_ge (val B a) (val B b) with g | g
   ·exact g
   ·have := zfe hB h1 h4 g; omega
  ·rw [if_neg hlt]
   refine ⟨fun h => by omega, fun h => ?_⟩
   have := zfe hB h2 h3 (by omega); omega
end Go.Am
namespace Go.Am
open Go Go.RowKit
theorem za3 {n : Int} (h1 : 0 <= n) (h2 : n < 18446744073709551616) : zag .u64 n = n := by
 rw [zdi]; simp only [IntKind.wrap, IntKind.bits, IntKind.signed]; simp; omega
theorem zgm {n : Int} (h1 : 0 <= n) (h2 : n < 4294967296) : zag .u32 n = n := by
 rw [zdi]; simp only [IntKind.wrap, IntKind.bits, IntKind.signed]; simp; omega
theorem zzdj {n : Int} (h1 : 0 <= n) (h2 : n < 65536) : zag .u16 n = n := by
 rw [zdi]; simp only [IntKind.wrap, IntKind.bits, IntKind.signed]; simp; omega
theorem z7q {n : Int} (h1 : 0 <= n) (h2 : n < 256) : zag .u8 n = n := by
 rw [zdi]; simp only [IntKind.wrap, IntKind.bits, IntKind.signed]; simp; omega
theorem zf7 (n : Int) : zag .u64 n = n % 18446744073709551616 := by
 rw [zdi]; simp only [IntKind.wrap, IntKind.bits, IntKind.signed]; simp
theorem zdk (n : Int) : zag .u32 n = n % 4294967296 := by
 rw [zdi]; simp only [IntKind.wrap, IntKind.bits, IntKind.signed]; simp
theorem z7p (n : Int) : zag .u16 n = n % 65536 := by
 rw [zdi]; simp only [IntKind.wrap, IntKind.bits, IntKind.signed]; simp
theorem z4c {k : IntKind} {x y : Nat} : iAnd k (x : Int) (y : Int) = zfz Nat.land k (x : Int) (y : Int) := rfl
theorem zea {f : Nat -> Nat -> Nat} {k : IntKind} {x y : Nat} (h1 : x < kHi k) (h2 : y < kHi k) : zfz f k (x : Int) (y : Int) = some (.int k (f x y : Nat)) := by
 unfold zfz; have e1 : ziq (x : Int) = some x := rfl
 have e2 : ziq (y : Int) = some y := rfl
 rw [e1, zac, e2, zac, zc8.2 h1, zc8.2 h2]; rfl
theorem zwh {k : IntKind} {x y : Nat} (h0 : 0 < y) (hw : zag k ((x / y : Nat) : Int) = ((x / y : Nat) : Int)) : zzfi k (x : Int) (y : Int) = some (.int k ((x / y : Nat) : Int)) := by
 unfold zzfi; have : iEq (y : Int) 0 = false := by
  cases hq : iEq (y : Int) 0 with
  | false => rfl
  | true => have := (zie _ _).1 hq; omega
 rw [this, cond_false, Int.tdiv_eq_ediv_of_nonneg (by omega)]
 rw [<- Int.natCast_ediv, hw]
theorem zp5 {k : IntKind} {x y : Nat} (h0 : 0 < y) : zzfh k (x : Int) (y : Int) = some (.int k ((x % y : Nat) : Int)) := by
 unfold zzfh; have : iEq (y : Int) 0 = false := by
  cases hq : iEq (y : Int) 0 with
  | false => rfl
  | true => have := (zie _ _).1 hq; omega
 rw [this, cond_false, Int.tmod_eq_emod_of_nonneg (by omega), <- Int.natCast_emod]
theorem zen {a b : Int} : (iEq a b = true) ↔ a = b := zie a b
theorem zv8 {a b : Int} : ((!iEq a b) = true) ↔ a ≠ b := by rw [ybq, <- Bool.not_eq_true, zen]
theorem zv9 {b : Bool} : ((!b) = true) ↔ b = false := by simp
theorem zt1 {a b n : Nat} (h : b < 2 ^ n) : Nat.lor (a * 2 ^ n) b = a * 2 ^ n + b := by
 show a * 2 ^ n ||| b = _
 rw [<- Nat.shiftLeft_eq, <- Nat.shiftLeft_add_eq_or_of_lt h, Nat.shiftLeft_eq]
theorem or_low {a b n : Nat} (h : b < 2 ^ n) (ha : a % 2 ^ n = 0) : Nat.lor a b = a + b := by
 obtain ⟨c, hc⟩ := Nat.dvd_of_mod_eq_zero ha
 subst hc; rw [yai]; exact zt1 h
theorem RSl.idx {t : Tr zak} {C : Ctx} {T el : Nat} (h : zpi C T el 1 false) {k : IntKind} {l : List Nat} {v : zab} (hr : RSl t 1 (za2 k l) v) {i x : Nat} (hi : l[i]? = some x) :
  ∃ b off, zah C T v (.int .i64 (i : Int)) = some (.ptr b off) /\ zau C el ⟨0, t⟩ (.ptr b off) = some (.int k (x : Int)) := by
 obtain ⟨b, off, cs, h1, h2, _, _, h5⟩ := zpi.at h (fun _ => rfl) hr (zzci hi)
 rw [zkd] at h5; subst h5; exact ⟨b, off, h1, h2⟩
theorem zfk (x : Nat) (n : Nat) : Int.fdiv (x : Int) (n : Int) = ((x / n : Nat) : Int) := by
 rw [Int.fdiv_eq_ediv_of_nonneg _ (by omega)]; exact (Int.natCast_ediv x n).symm
theorem getElem?_of_lt {l : List Nat} {i : Nat} (h : i < l.length) : ∃ x, l[i]? = some x := ⟨l[i], yae h⟩
theorem zbu {B : Nat} {l : List Nat} (h : zax B l) {i x : Nat} (hi : l[i]? = some x) : x < B := h x (ybw hi)
theorem zmt {l : List Nat} (h : l ≠ []) : ∃ m x, l = m ++ [x] := by
 rcases List.eq_nil_or_concat l with e | ⟨m, a, e⟩
 ·exact absurd e h
 ·exact ⟨m, a, by rw [e, List.concat_eq_append]⟩
end Go.Am
namespace Go.Proofs
open Go Go.Am
variable [zcb]
variable {t : Tr zak}
theorem z8d : ∀ (n : Nat) (l : List Nat) (v : zab), l.length = n -> n < 1125899906842624 -> RSl t 1 (za2 .u32 l) v -> ∃ v', jp 174 2 [v] t (fun u m => u = v' /\ m = t) /\ RSl t 1 (za2 .u32 (zc9 l)) v' := by
 intro n; induction n with
 | zero =>
  intro l v hl _ hv; have : l = [] := ybd.1 hl
  subst this; refine ⟨v, zzba _ ?_, hv⟩
  simp only [z24, wpT, hv.len, zaa, zai, zav, zbo]; rw [if_neg (by simp)]
  simp
 | succ n ih =>
  intro l v hl hn hv; obtain ⟨m, x, rfl⟩ := zmt (l := l) (by intro e; subst e; simp at hl)
  have hm : m.length = n := by simpa using hl
  have hx : (m ++ [x])[m.length]? = some x := by simp
  obtain ⟨b, off, g1, g2⟩ := hv.idx zd0 hx
  obtain ⟨u, g3, g4⟩ := zpi.front zd0 hv (k := m.length) (by simp [za2])
  rw [zuw] at g4; simp only [List.take_left'] at g4; have e1 : (((m ++ [x]).length : Nat) : Int) - 1 = (m.length : Int) := by simp
  by_cases hx0 : x = 0
  ·subst hx0
   obtain ⟨w, h1, h2⟩ := ih m u hm (by omega) g4
   refine ⟨w, zzba _ ?_, by rw [zny]; exact h2⟩
   simp (disch := omega) only [z24, wpT, hv.len, zaa, zai, zav, zbo, zen, wrap_i64, e1, g1, g2, g3]
   rw [if_pos (by simp), if_pos (by simp)]
   exact h1
  ·refine ⟨v, zzba _ ?_, ?_⟩
   ·simp (disch := omega) only [z24, wpT, hv.len, zaa, zai, zav, zbo, zen, wrap_i64, e1, g1, g2, g3]
    rw [if_pos (by simp), if_neg (by simpa using hx0)]
    simp
   ·rw [zih]
    ·exact hv
    ·intro _; simpa using hx0
theorem zlr {l : List Nat} {v : zab} (hl : l.length < 1125899906842624) (hv : RSl t 1 (za2 .u32 l) v) : ∃ v', pvC C13 F 174 [v] t = some v' /\ RSl t 1 (za2 .u32 (zc9 l)) v' := by
 obtain ⟨v', h1, h2⟩ := z8d _ l v rfl hl hv
 exact ⟨v', zaz.2 (w174 _ h1), h2⟩
theorem zzf9 {a b : List Nat} {u v : zab} (hu : RSl t 1 (za2 .u32 a) u) (hv : RSl t 1 (za2 .u32 b) v) (hl : a.length = b.length) : ∀ (n : Nat), n <= a.length -> n < 1125899906842624 -> jp 203 2 [u, v, .int .i64 ((n : Int) - 1)] t (fun w m => w = .int .i64 (zwv.go (a.take n) (b.take n)) /\ m = t) := by
 intro n; induction n with
 | zero =>
  intro _ _; refine zzht _ _ _ ?_
  simp only [z8z, wpT, zdc]; rw [if_neg (by omega)]
  simp [zwv.go]
 | succ n ih =>
  intro hn hn2; obtain ⟨x, hx⟩ := getElem?_of_lt (l := a) (i := n) (by omega)
  obtain ⟨y, hy⟩ := getElem?_of_lt (l := b) (i := n) (by omega)
  obtain ⟨c, off, g1, g2⟩ := hu.idx zd0 hx
  obtain ⟨d, off', g3, g4⟩ := hv.idx zd0 hy
  have e1 : (((n + 1 : Nat) : Int) - 1) = (n : Int) := by omega
  have key : ∀ (a b : List Nat) (x y : Nat), a.length = b.length -> zwv.go (a ++ [x]) (b ++ [y]) = if x < y then -1 else if y < x then 1 else zwv.go a b := by
   intro a; induction a with
   | nil =>
    intro b x y h; have : b = [] := ybd.1 (by simpa using h.symm)
    subst this; simp [zwv.go]
   | cons p a ih =>
    intro b x y h
    cases b with
    | nil => simp at h
    | cons q b =>
     simp only [List.cons_append, zwv.go]; rw [ih b x y (by simpa using h)]
     by_cases c1 : x < y
     ·simp [c1]
     ·by_cases c2 : y < x
      ·simp [c1, c2]
      ·simp [c1, c2]
  have e2 : zwv.go (a.take (n + 1)) (b.take (n + 1)) = if x < y then -1 else if y < x then 1 else zwv.go (a.take n) (b.take n) := by
   rw [ych, ych, hx, hy]; exact key _ _ _ _ (by simp; omega)
  rw [e1, e2]; refine zzht _ _ _ ?_
  simp (disch := omega) only [z8z, wpT, zaa, zai, zbo, zdc, zv8, g1, g2, g3, g4, wrap_i64]
  rw [if_pos (by omega)]
  by_cases c0 : x = y
  ·subst c0
   rw [if_neg (by simp), if_neg (by omega), if_neg (by omega)]
   exact ih (by omega) (by omega)
  ·rw [if_pos (by omega)]
   by_cases c1 : x < y
   ·rw [if_pos (by omega), if_pos c1]; simp
   ·rw [if_neg (by omega), if_neg c1, if_pos (by omega)]; simp
theorem zzh5 {a b : List Nat} {u v : zab} (ha : a.length < 1125899906842624) (hu : RSl t 1 (za2 .u32 a) u) (hv : RSl t 1 (za2 .u32 b) v) : pvC C13 F 203 [u, v] t = some (.int .i64 (zwv a b)) := by
 refine zaz.2 (w203 _ _ ?_)
 simp (disch := omega) only [t203, wpT, hu.len, hv.len, zaa, zai, zav, zbo, zv8, wrap_i64]
 unfold zwv; by_cases hl : a.length = b.length
 ·rw [if_neg (by omega), if_neg (by omega)]
  have := zzf9 hu hv hl a.length (yal _) ha
  rw [List.take_length, hl, List.take_length] at this; rw [hl]; exact this
 ·rw [if_pos (by omega), if_pos hl]
  by_cases hlt : a.length < b.length
  ·rw [if_pos (by omega), if_pos hlt]; simp
  ·rw [if_neg (by omega), if_neg hlt]; simp
def ze8 (neg : Bool) (l : List Nat) : Bool := if l = [] then !neg else decide (l.length <= 1024) && decide (l.getLast? ≠ some 0)
theorem zpt {neg : Bool} {l : List Nat} {v : zab} (hl : l.length < 1125899906842624) (hv : RSl t 1 (za2 .u16 l) v) : pvC C13 F 148 [.agg [.bool neg, v]] t = some (.bool (ze8 neg l)) := by
 refine zaz.2 (w148 _ _ ?_)
 unfold ze8; by_cases h0 : l = []
 ·subst h0
  simp only [t148, wpT, hv.len, zaa, zai, zav, zen]; simp
 ·obtain ⟨m, x, rfl⟩ := zmt h0
  have hx : (m ++ [x])[m.length]? = some x := by simp
  obtain ⟨b, off, g1, g2⟩ := hv.idx sl22 hx
  have e1 : (((m ++ [x]).length : Nat) : Int) - 1 = (m.length : Int) := by simp
  have hlm : m.length < 1125899906842624 := by simp at hl; omega
  simp (disch := omega) only [t148, wpT, hv.len, zaa, zai, zav, zen, zdc, wrap_i64, e1, g1, g2]
  rw [if_neg (by simp; omega), if_neg h0]
  by_cases h1 : (m ++ [x]).length <= 1024
  ·rw [if_pos (by omega)]
   simp only [h1, decide_true, ybo]; by_cases hx0 : x = 0
   ·subst hx0; simp [zlg]
   ·have : iEq (x : Int) 0 = false := by
     cases hq : iEq (x : Int) 0 with
     | false => rfl
     | true => have := (zie _ _).1 hq; omega
    simp [this, hx0]
  ·rw [if_neg (by omega), decide_eq_false h1]
   simp
theorem zwd {neg : Bool} {l : List Nat} {v : zab} (hv : RSl t 1 (za2 .u16 l) v) : pvC C13 F 149 [.agg [.bool neg, v]] t = some (.bool (!neg && decide (l = [1]))) := by
 refine zaz.2 (w149 _ _ ?_)
 cases neg with
 | true => simp [t149, wpT]
 | false =>
  simp only [t149, wpT, hv.len, zaa, zai, zav, zen]; rw [if_pos (by rfl)]
  by_cases h1 : l.length = 1
  ·obtain ⟨x, rfl⟩ : ∃ x, l = [x] := by
    cases l with
    | nil => simp at h1
    | cons x r => cases r with
     | nil => exact ⟨x, rfl⟩
     | cons y r => simp at h1
   obtain ⟨b, off, g1, g2⟩ := hv.idx sl22 (i := 0) (x := x) (by simp)
   simp only [Int.natCast_zero] at g1; rw [if_pos (by simp)]
   simp only [g1, g2, zaa, zai]; by_cases hx : x = 1
   ·subst hx; simp [zlg]
   ·have : iEq (x : Int) 1 = false := by
     cases hq : iEq (x : Int) 1 with
     | false => rfl
     | true => have := (zie _ _).1 hq; omega
    simp [this, hx]
  ·rw [if_neg (by omega)]
   have : l ≠ [1] := by intro e; subst e; simp at h1
   simp [this]
end Go.Proofs
namespace Go.Am
def zdy : List Nat -> List Nat
 | [] => []
 | [a] => [a]
 | a :: b :: l => (a + 65536 * b) :: zdy l
theorem zdx : ∀ l : List Nat, (zdy l).length = (l.length + 1) / 2
 | [] => rfl
 | [a] => by simp [zdy]
 | a :: b :: l => by simp [zdy, zdx l]; omega
theorem zqm : ∀ l : List Nat, val 4294967296 (zdy l) = val 65536 l
 | [] => rfl
 | [a] => by simp [zdy, val]
 | a :: b :: l => by simp only [zdy, val, zqm l]; omega
theorem zhl : ∀ {l : List Nat}, zax 65536 l -> zax 4294967296 (zdy l)
 | [], _ => fun x hx => (by cases hx)
 | [a], h => fun x hx => by
  have := h a (by simp)
  have e : x = a := by simpa [zdy] using hx
  omega
 | a :: b :: l, h => fun x hx => by
  have h1 := h a (by simp)
  have h2 := h b (by simp)
  rcases yat.1 hx with rfl | hx
  ·omega
  ·exact zhl (l := l) (fun y hy => h y (by simp [hy])) x hx
theorem zkm : ∀ {l : List Nat}, norm l -> norm (zdy l)
 | [], _ => fun h => (h rfl).elim
 | [a], h => by
  intro _; have := h (by simp)
  simpa [zdy] using this
 | [a, b], h => by
  intro _; have := h (by simp)
  simp at this; simp [zdy]; omega
 | a :: b :: c :: l, h => by
  intro _; have hn : norm (c :: l) := by
   intro hne; have := h (by simp)
   rw [List.getLast_cons (by simp), List.getLast_cons hne] at this
   exact this
  have hne : zdy (c :: l) ≠ [] := by
   intro e; have := congrArg List.length e
   rw [zdx] at this; simp at this; omega
  have := zkm (l := c :: l) hn hne
  show ((a + 65536 * b) :: zdy (c :: l)).getLast _ ≠ 0
  rw [List.getLast_cons hne]; exact this
theorem zn3 : ∀ (l : List Nat) (x : Nat), l.length % 2 = 0 -> zdy (l ++ [x]) = zdy l ++ [x]
 | [], x, _ => rfl
 | [a], x, h => by simp at h
 | a :: b :: l, x, h => by
  show (a + 65536 * b) :: zdy (l ++ [x]) = (a + 65536 * b) :: (zdy l ++ [x])
  rw [zn3 l x (by simp at h; omega)]
theorem zyb : ∀ (l : List Nat) (a x : Nat), l.length % 2 = 0 -> zdy (l ++ [a, x]) = zdy l ++ [a + 65536 * x]
 | [], a, x, _ => rfl
 | [b], a, x, h => by simp at h
 | c :: b :: l, a, x, h => by
  show (c + 65536 * b) :: zdy (l ++ [a, x]) = (c + 65536 * b) :: (zdy l ++ [a + 65536 * x])
  rw [zyb l a x (by simp at h; omega)]
def zb1 : List Nat -> List Nat
 | [] => []
 | w :: l => w % 65536 :: w / 65536 :: zb1 l
theorem zfs : ∀ l : List Nat, (zb1 l).length = 2 * l.length
 | [] => rfl
 | w :: l => by simp [zb1, zfs l]; omega
theorem zql : ∀ l : List Nat, val 65536 (zb1 l) = val 4294967296 l
 | [] => rfl
 | w :: l => by
  simp only [zb1, val, zql l]; have := ybi w 65536
  omega
theorem znn : ∀ {l : List Nat}, zax 4294967296 l -> zax 65536 (zb1 l)
 | [], _ => fun x hx => (by cases hx)
 | w :: l, h => fun x hx => by
  have h1 := h w (by simp)
  rcases yat.1 hx with rfl | hx
  ·exact ybz _ (by decide)
  ·rcases yat.1 hx with rfl | hx
   ·exact ybv (by omega)
   ·exact znn (l := l) (fun y hy => h y (by simp [hy])) x hx
theorem zg3 : ∀ (l : List Nat) (w : Nat), zb1 (l ++ [w]) = zb1 l ++ [w % 65536, w / 65536]
 | [], w => rfl
 | a :: l, w => by simp [zb1, zg3 l w]
theorem zmg {l : List Nat} {w : Nat} (hw : w ≠ 0) : zc9 (zb1 (l ++ [w])) = if w / 65536 = 0 then zb1 l ++ [w % 65536] else zb1 (l ++ [w]) := by
 rw [zg3]; split
 ·rename_i h
  rw [h, show zb1 l ++ [w % 65536, 0] = (zb1 l ++ [w % 65536]) ++ [0] by simp, zny]
  refine zih fun _ => ?_
  simp; omega
 ·rename_i h
  refine zih fun _ => ?_
  simpa using h
end Go.Am
namespace Go.Proofs
open Go Go.Am
variable [zcb]
variable {t : Tr zak}
theorem set_append_right {l m : List Nat} {i x : Nat} (h : l.length = i) : (l ++ m).set i x = l ++ m.set 0 x := by
 rw [List.set_append_right _ _ (by omega)]; congr 1; congr 1; omega
theorem z9x {l : List Nat} {v : zab} {b : Nat} {Q : zao} (hv : RSl t 1 (za2 .u16 l) v) (hl : l.length < 1000000) (hlt : zax 65536 l) (hbase : C13.base <= b) (hb : t.get b = none)
  (hQ : ∀ t' v', TLe t t' -> RSl t' 1 (za2 .u32 (zdy l)) v' -> Q v' t') : ∀ (k i : Nat) (t' : Tr zak), i + k = l.length -> TLe t t' -> Own t' b .u32 (zdy (l.take i) ++ List.replicate ((l.length + 1) / 2 - (i + 1) / 2) 0) →
  jp 151 2 [.slice b 0 ((l.length + 1) / 2) ((l.length + 1) / 2), v, .int .i64 l.length, .int .i64 i] t' Q := by
 intro k; induction k with
 | zero =>
  intro i t' hi ht ho; refine zzhy _ _ _ _ ?_
  simp only [z85, wpT, zbo]; rw [if_neg (by omega)]
  rw [ybb (by omega), show (l.length + 1) / 2 - (i + 1) / 2 = 0 by omega, List.replicate_zero, ybe] at ho
  refine hQ _ _ ht ?_
  have := ho.all (yal _)
  rw [zdx] at this; exact this
 | succ k ih =>
  intro i t' hi ht ho; obtain ⟨x, hx⟩ := getElem?_of_lt (l := l) (i := i) (by omega)
  have hxlt : x < 65536 := zbu hlt hx
  obtain ⟨c, off, g1, g2⟩ := (hv.mono ht).idx sl22 hx
  have htake : l.take (i + 1) = l.take i ++ [x] := by rw [ych, hx]; rfl
  have hlen : (l.take i).length = i := by simp; omega
  obtain ⟨y, hy, hnew⟩ : ∃ y, (zdy (l.take i) ++ List.replicate ((l.length + 1) / 2 - (i + 1) / 2) 0)[i / 2]? = some y /\ y < 4294967296 /\ Nat.lor y (x * 2 ^ (16 * (i % 2))) < 4294967296 ∧
    (zdy (l.take i) ++ List.replicate ((l.length + 1) / 2 - (i + 1) / 2) 0).set (i / 2) (Nat.lor y (x * 2 ^ (16 * (i % 2)))) = zdy (l.take (i + 1)) ++ List.replicate ((l.length + 1) / 2 - (i + 1 + 1) / 2) 0 := by
   rcases Nat.mod_two_eq_zero_or_one i with he | ho1
   ·have hp : (zdy (l.take i)).length = i / 2 := by rw [zdx, hlen]; omega
    refine ⟨0, ?_, by decide, ?_, ?_⟩
    ·rw [yaq (by omega), hp, Nat.sub_self, List.getElem?_replicate, if_pos (by omega)]
    ·rw [he]; simp; omega
    ·rw [set_append_right hp, he, htake, zn3 _ _ (by rw [hlen]; exact he)]
     have : Nat.lor 0 (x * 2 ^ (16 * 0)) = x := by show 0 ||| _ = x; simp
     rw [this]; obtain ⟨r, hr⟩ : ∃ r, (l.length + 1) / 2 - (i + 1) / 2 = r + 1 := ⟨(l.length + 1) / 2 - (i + 1) / 2 - 1, by omega⟩
     rw [hr, List.replicate_succ, List.set_cons_zero, show (l.length + 1) / 2 - (i + 1 + 1) / 2 = r by omega]
     simp
   ·obtain ⟨p, a, hpa⟩ := zmt (l := l.take i) (by intro e; rw [e] at hlen; simp at hlen; omega)
    have hpl : p.length = i - 1 := by rw [hpa] at hlen; simp at hlen; omega
    have hpe : p.length % 2 = 0 := by omega
    have ha : a < 65536 := hlt a (List.mem_of_mem_take (by rw [hpa]; simp : a ∈ l.take i))
    have hp : (zdy p).length = i / 2 := by rw [zdx, hpl]; omega
    rw [hpa, zn3 _ _ hpe]; have hlor : Nat.lor a (x * 2 ^ (16 * 1)) = a + 65536 * x := by
     show a ||| x * 2 ^ (16 * 1) = _
     rw [Nat.or_comm]; have := zt1 (a := x) (b := a) (n := 16) (by omega)
     show Nat.lor (x * 2 ^ 16) a = _
     rw [this]; omega
    refine ⟨a, ?_, by omega, ?_, ?_⟩
    ·rw [yba, yaq (by omega), hp, Nat.sub_self]; rfl
    ·rw [ho1, hlor]; omega
    ·rw [ho1, hlor, yba, set_append_right hp, htake, hpa, yba]
     rw [show [a] ++ [x] = [a, x] from rfl, zyb _ _ _ hpe, yba]; rw [show (l.length + 1) / 2 - (i + 1 + 1) / 2 = (l.length + 1) / 2 - (i + 1) / 2 by omega]
     rfl
  obtain ⟨hy1, hy2, hy3⟩ := hnew
  have hwlen : (zdy (l.take i) ++ List.replicate ((l.length + 1) / 2 - (i + 1) / 2) 0).length = (l.length + 1) / 2 := by
   rw [yah, zdx, hlen, List.length_replicate]; omega
  have g3 : zah C13 200 (.slice b 0 ((l.length + 1) / 2) ((l.length + 1) / 2)) (.int .i64 ((i / 2 : Nat) : Int)) = some (.ptr b (0 + i / 2 * 1)) := zdb zd0 (by omega)
  rw [show 0 + i / 2 * 1 = i / 2 by omega] at g3; have g4 := ho.load hy zeq rfl
  obtain ⟨t2, g5, g6, g7⟩ := ho.store (C := C13) hbase (j := i / 2) (by omega) (Nat.lor y (x * 2 ^ (16 * (i % 2)))) zeq rfl
  rw [hy3] at g6; refine zzhy _ _ _ _ ?_
  have e1 : Int.tdiv (i : Int) 2 = ((i / 2 : Nat) : Int) := by rw [Int.tdiv_eq_ediv_of_nonneg (by omega)]; rfl
  have e2 : Int.tmod (i : Int) 2 = ((i % 2 : Nat) : Int) := by rw [Int.tmod_eq_emod_of_nonneg (by omega)]; rfl
  have hm := ybz i (show 0 < 2 by decide)
  simp (disch := omega) only [z85, wpT, zbo, g1, g2, zaa, zai, wrap_i64, zgm, e1, e2, g3, g4]
  rw [if_pos (by omega)]
  have e3 : zzbk .u32 (x : Int) (16 * ((i % 2 : Nat) : Int)) = some (.int .u32 ((x * 2 ^ (16 * (i % 2)) : Nat) : Int)) := by
   rcases Nat.mod_two_eq_zero_or_one i with h | h <;> rw [h]
   ·simp [zzbk, zq0, ziq]
    rw [zgm (by omega) (by omega)]
   ·have : zzbk .u32 (x : Int) (16 * ((1 : Nat) : Int)) = some (.int .u32 (zag .u32 ((x : Int) * 65536))) := rfl
    rw [this, zgm (by omega) (by omega)]
    simp
  rw [e3]; have hb2 : x * 2 ^ (16 * (i % 2)) < 4294967296 := by
   rcases Nat.mod_two_eq_zero_or_one i with h | h <;> rw [h] <;> omega
  simp only [zaa, zai]; rw [zea (show y < kHi .u32 from hy1) (show x * 2 ^ (16 * (i % 2)) < kHi .u32 from hb2)]
  simp only [zaa, zai]; intro d _ _; rw [g5]; simp only [zaa]; have := ih (i + 1) t2 (by omega) (ht.off hb g7) g6
  rw [show ((i + 1 : Nat) : Int) = (i : Int) + 1 by omega] at this
  exact this
theorem z03 {l : List Nat} {v : zab} {Q : zao} (hv : RSl t 1 (za2 .u16 l) v) (hl : l.length < 1000000) (hlt : zax 65536 l)
  (hQ : ∀ t' v', TLe t t' -> RSl t' 1 (za2 .u32 (zdy l)) v' -> Q v' t') : Wc C13 F 151 [v] t Q := by
 refine w151 _ ?_
 have e1 : Int.tdiv ((l.length : Int) + 1) 2 = (((l.length + 1) / 2 : Nat) : Int) := by rw [Int.tdiv_eq_ediv_of_nonneg (by omega)]; rfl
 simp (disch := omega) only [t151, wpT, hv.len, zaa, zai, zav, wrap_i64, e1]
 intro b hb hbase; obtain ⟨t', g1, g2, g3, _⟩ := zkn (C := C13) (k := .u32) zmc rfl zeq rfl rfl (by decide) (n := (l.length + 1) / 2) (by omega) hb
 rw [g1]; simp only [zaa]; exact z9x hv hl hlt hbase hb hQ l.length 0 t' (by omega) g3 (by simpa [zdy] using g2)
end Go.Proofs
namespace Go.Proofs
open Go Go.Am
variable [zcb]
variable {t : Tr zak}
theorem z8g {n : Nat} (h : n < 4294967296) : n / 2147483648 = if n.testBit 31 then 1 else 0 := by
 have : n.testBit 31 = decide (n / 2 ^ 31 % 2 = 1) := Nat.testBit_eq_decide_div_mod_eq
 rw [this]; have h2 : n / 2 ^ 31 < 2 := by omega
 by_cases c : n / 2 ^ 31 % 2 = 1
 ·rw [decide_eq_true c]; simp; omega
 ·rw [decide_eq_false c]; simp; omega
theorem z8f {n : Nat} (h : n < 4294967296) : n.testBit 31 = decide (2147483648 <= n) := by
 have := z8g h
 by_cases c : 2147483648 <= n
 ·rw [decide_eq_true c]
  cases hb : n.testBit 31 with
  | true => rfl
  | false => rw [hb] at this; simp at this; omega
 ·rw [decide_eq_false c]
  cases hb : n.testBit 31 with
  | false => rfl
  | true => rw [hb] at this; simp at this; omega
theorem zxj {x : Nat} (h : x < 4294967296) : z0h (.int .u32 (x : Int)) = some (.int .u32 (Nat.xor 4294967295 x : Nat)) := by
 unfold z0h; simp only [zab.asIntK, zac]; have : Nat.beq (kLo .u32) 0 = true := rfl
 rw [this, zam]; exact zea (k := .u32) (x := 4294967295) (show 4294967295 < kHi .u32 by decide) (show x < kHi .u32 from h)
theorem zzdw {x y b : Nat} (hx : x < 4294967296) (hy : y < 4294967296) (hb : b < 2) :
  pvC C13 F 217 [.int .u32 x, .int .u32 y, .int .u32 b] t = some (.tup [.int .u32 (((x + 8589934592 - y - b) % 4294967296 : Nat) : Int), .int .u32 (((if x < y + b then 1 else 0) : Nat) : Int)]) := by
 refine zaz.2 (w217 _ _ _ ?_)
 obtain ⟨d, hd⟩ : ∃ d, d = (x + 8589934592 - y - b) % 4294967296 := ⟨_, rfl⟩
 have hdl : d < 4294967296 := by rw [hd]; exact ybz _ (by decide)
 have e1 : zag .u32 (zag .u32 ((x : Int) - y) - b) = (d : Int) := by
  rw [zdk, zdk, hd]; omega
 have hn1 : Nat.xor 4294967295 x < 4294967296 := Nat.xor_lt_two_pow (n := 32) (by decide) hx
 have hn2 : Nat.xor x y < 4294967296 := Nat.xor_lt_two_pow (n := 32) hx hy
 have hn3 : Nat.xor 4294967295 (Nat.xor x y) < 4294967296 := Nat.xor_lt_two_pow (n := 32) (by decide) hn2
 have hn4 : Nat.land (Nat.xor 4294967295 x) y < 4294967296 := Nat.lt_of_le_of_lt Nat.and_le_left hn1
 have hn5 : Nat.land (Nat.xor 4294967295 (Nat.xor x y)) d < 4294967296 := Nat.lt_of_le_of_lt Nat.and_le_left hn3
 have hn6 : Nat.lor (Nat.land (Nat.xor 4294967295 x) y) (Nat.land (Nat.xor 4294967295 (Nat.xor x y)) d) < 4294967296 := Nat.or_lt_two_pow (n := 32) hn4 hn5
 simp only [t217, wpT, e1]; rw [zxj hx]; simp only [zaa, zai]; rw [z4c, zea (k := .u32) hn1 hy]
 simp only [zaa, zai]; rw [zea (k := .u32) hx hy]
 simp only [zaa, zai]; rw [zxj hn2]; simp only [zaa, zai]; rw [z4c, zea (k := .u32) hn3 hdl]
 simp only [zaa, zai]; rw [zea (k := .u32) hn4 hn5]
 simp only [zaa, zai]; have e2 : Int.fdiv ((Nat.lor (Nat.land (Nat.xor 4294967295 x) y) (Nat.land (Nat.xor 4294967295 (Nat.xor x y)) d) : Nat) : Int) 2147483648 = (((if x < y + b then 1 else 0) : Nat) : Int) := by
  rw [show (2147483648 : Int) = ((2147483648 : Nat) : Int) from rfl, zfk, z8g hn6]
  congr 1
  have tb : (Nat.lor (Nat.land (Nat.xor 4294967295 x) y) (Nat.land (Nat.xor 4294967295 (Nat.xor x y)) d)).testBit 31 = decide (x < y + b) := by
   show ((4294967295 ^^^ x) &&& y ||| (4294967295 ^^^ (x ^^^ y)) &&& d).testBit 31 = _
   rw [Nat.testBit_or, Nat.testBit_and, Nat.testBit_and, Nat.testBit_xor, Nat.testBit_xor, Nat.testBit_xor, z8f hx, z8f hy, z8f hdl]; have : (4294967295 : Nat).testBit 31 = true := by decide
   rw [this]; by_cases c1 : 2147483648 <= x <;> by_cases c2 : 2147483648 <= y <;> by_cases c3 : 2147483648 <= d <;> by_cases c4 : x < y + b <;> simp only [c1, c2, c3, c4, decide_true, decide_false, Bool.xor_true, Bool.xor_false, Bool.true_xor, Bool.false_xor, Bool.not_true, ybm, Bool.and_true, Bool.and_false, Bool.or_true, Bool.or_false, Bool.xor_self] <;> omega
  rw [tb]; by_cases c : x < y + b
  ·simp [c]
  ·simp [c]
 rw [e2, hd]; simp
theorem zzgk {x y c : Nat} (hx : x < 4294967296) (hy : y < 4294967296) (hc : c < 2) :
  pvC C13 F 221 [.int .u32 x, .int .u32 y, .int .u32 c] t = some (.tup [.int .u32 (((x + y + c) % 4294967296 : Nat) : Int), .int .u32 (((x + y + c) / 4294967296 : Nat) : Int)]) := by
 refine zaz.2 (w221 _ _ _ ?_)
 have e0 : ((x : Int) + y) + c = ((x + y + c : Nat) : Int) := by omega
 simp (disch := omega) only [t221, wpT, za3]
 have e1 : ((x + y + c : Nat) : Int) % 4294967296 = (((x + y + c) % 4294967296 : Nat) : Int) := by omega
 have e2 : (((x + y + c) / 4294967296 : Nat) : Int) % 4294967296 = (((x + y + c) / 4294967296 : Nat) : Int) := by omega
 rw [e0, show Int.fdiv ((x + y + c : Nat) : Int) 4294967296 = (((x + y + c) / 4294967296 : Nat) : Int) from zfk _ 4294967296, zdk, zdk, e1, e2]
 simp
theorem zzf0 {h l d : Nat} (hh : h < d) (hl : l < 4294967296) (hd : d < 4294967296) :
  pvC C13 F 173 [.int .u32 h, .int .u32 l, .int .u32 d] t = some (.tup [.int .u32 (((h * 4294967296 + l) / d : Nat) : Int), .int .u32 (((h * 4294967296 + l) % d : Nat) : Int)]) := by
 refine zaz.2 (w173 _ _ _ ?_)
 simp only [t173, wpT, zv8, zdc]; rw [if_pos (by omega), if_neg (by omega)]
 refine j173_7 _ _ _ ?_
 have e1 : (h : Int) * 4294967296 = ((h * 4294967296 : Nat) : Int) := by omega
 have hq : (h * 4294967296 + l) / d < 4294967296 := ybv (by
  have : (h + 1) * 4294967296 <= d * 4294967296 := yaj _ hh
  omega)
 have hr : (h * 4294967296 + l) % d < d := ybz _ (by omega)
 simp (disch := omega) only [zzg6, wpT, za3, e1]
 have e2 : zfz Nat.lor .u64 ((h * 4294967296 : Nat) : Int) (l : Int) = some (.int .u64 ((h * 4294967296 + l : Nat) : Int)) := by
  rw [zea (k := .u64) (show h * 4294967296 < kHi .u64 by show _ < 18446744073709551616; omega) (show l < kHi .u64 by show _ < 18446744073709551616; omega)]
  have := zt1 (a := h) (b := l) (n := 32) hl
  rw [show h * 4294967296 = h * 2 ^ 32 by rfl, this]
 rw [e2]; simp only [zaa, zai]; rw [zwh (k := .u64) (by omega) (by
  generalize (h * 4294967296 + l) / d = q at hq ⊢
  exact za3 (by omega) (by omega)), zp5 (k := .u64) (by omega)]
 simp only [zaa, zai]; generalize (h * 4294967296 + l) / d = q at hq ⊢
 generalize (h * 4294967296 + l) % d = r at hr ⊢
 rw [zgm (by omega) (by omega), zgm (by omega) (by omega)]
 simp
theorem zzez (v : Nat) (hv : v < 256) : ∃ k, k < 9 /\ zd8 [0, 1, 2, 2, 3, 3, 3, 3, 4, 4, 4, 4, 4, 4, 4, 4, 5, 5, 5, 5, 5, 5, 5, 5, 5, 5, 5, 5, 5, 5, 5, 5, 6, 6, 6, 6, 6, 6, 6, 6, 6, 6, 6, 6, 6, 6, 6, 6, 6, 6, 6, 6, 6, 6, 6, 6, 6, 6, 6, 6, 6, 6, 6, 6, 7, 7, 7, 7, 7, 7, 7, 7, 7, 7, 7, 7, 7, 7, 7, 7, 7, 7, 7, 7, 7, 7, 7, 7, 7, 7, 7, 7, 7, 7, 7, 7, 7, 7, 7, 7, 7, 7, 7, 7, 7, 7, 7, 7, 7, 7, 7, 7, 7, 7, 7, 7, 7, 7, 7, 7, 7, 7, 7, 7, 7, 7, 7, 7, 8, 8, 8, 8, 8, 8, 8, 8, 8, 8, 8, 8, 8, 8, 8, 8, 8, 8, 8, 8, 8, 8, 8, 8, 8, 8, 8, 8, 8, 8, 8, 8, 8, 8, 8, 8, 8, 8, 8, 8, 8, 8, 8, 8, 8, 8, 8, 8, 8, 8, 8, 8, 8, 8, 8, 8, 8, 8, 8, 8, 8, 8, 8, 8, 8, 8, 8, 8, 8, 8, 8, 8, 8, 8, 8, 8, 8, 8, 8, 8, 8, 8, 8, 8, 8, 8, 8, 8, 8, 8, 8, 8, 8, 8, 8, 8, 8, 8, 8, 8, 8, 8, 8, 8, 8, 8, 8, 8, 8, 8, 8, 8, 8, 8, 8, 8, 8, 8, 8, 8, 8, 8, 8, 8, 8, 8, 8, 8] v = some k /\ (v = 0 /\ k = 0 \/ 0 < k /\ 2 ^ (k - 1) <= v /\ v < 2 ^ k) := by
 have h : ∀ v : Fin 256, (zd8 [0, 1, 2, 2, 3, 3, 3, 3, 4, 4, 4, 4, 4, 4, 4, 4, 5, 5, 5, 5, 5, 5, 5, 5, 5, 5, 5, 5, 5, 5, 5, 5, 6, 6, 6, 6, 6, 6, 6, 6, 6, 6, 6, 6, 6, 6, 6, 6, 6, 6, 6, 6, 6, 6, 6, 6, 6, 6, 6, 6, 6, 6, 6, 6, 7, 7, 7, 7, 7, 7, 7, 7, 7, 7, 7, 7, 7, 7, 7, 7, 7, 7, 7, 7, 7, 7, 7, 7, 7, 7, 7, 7, 7, 7, 7, 7, 7, 7, 7, 7, 7, 7, 7, 7, 7, 7, 7, 7, 7, 7, 7, 7, 7, 7, 7, 7, 7, 7, 7, 7, 7, 7, 7, 7, 7, 7, 7, 7, 8, 8, 8, 8, 8, 8, 8, 8, 8, 8, 8, 8, 8, 8, 8, 8, 8, 8, 8, 8, 8, 8, 8, 8, 8, 8, 8, 8, 8, 8, 8, 8, 8, 8, 8, 8, 8, 8, 8, 8, 8, 8, 8, 8, 8, 8, 8, 8, 8, 8, 8, 8, 8, 8, 8, 8, 8, 8, 8, 8, 8, 8, 8, 8, 8, 8, 8, 8, 8, 8, 8, 8, 8, 8, 8, 8, 8, 8, 8, 8, 8, 8, 8, 8, 8, 8, 8, 8, 8, 8, 8, 8, 8, 8, 8, 8, 8, 8, 8, 8, 8, 8, 8, 8, 8, 8, 8, 8, 8, 8, 8, 8, 8, 8, 8, 8, 8, 8, 8, 8, 8, 8, 8, 8, 8, 8, 8, 8] v.val).elim false (fun k => decide (k < 9) && (decide (v.val = 0) && decide (k = 0) || decide (0 < k) && decide (2 ^ (k - 1) <= v.val) && decide (v.val < 2 ^ k))) = true := by decide +kernel
 have hv := h ⟨v, hv⟩
 simp only [] at hv; generalize zd8 _ v = r at hv ⊢
 cases r with
 | none => simp at hv
 | some k =>
  simp only [Option.elim_some, yac, ybr, decide_eq_true_eq] at hv; obtain ⟨hk, hv⟩ := hv
  refine ⟨k, hk, rfl, ?_⟩
  rcases hv with hv | hv
  ·exact .inl hv
  ·exact .inr ⟨hv.1.1, hv.1.2, hv.2⟩
def BL (x k : Nat) : Prop := x = 0 /\ k = 0 \/ 0 < k /\ 2 ^ (k - 1) <= x /\ x < 2 ^ k
theorem zyn {x s : Nat} (hx : x < 256) (hs : s < 100) : ∃ k, k <= 8 /\ BL x k /\ jp 219 15 [.int .u32 x, .int .i64 s] t (fun v m => v = .int .i64 ((s + k : Nat) : Int) /\ m = t) := by
 obtain ⟨k, hk, h1, h2⟩ := zzez x hx
 refine ⟨k, by omega, h2, zzjp _ _ ?_⟩
 simp (disch := omega) only [z8p, wpT, z7q]
 unfold zmb; rw [ty9, zac]; have : (zab.int .u8 (x : Int)).asNat = some x := rfl
 rw [this, zac]; simp only [zab.asStr]; rw [show (ATy.desc ⟨.string, 1, 16, [.str []], true⟩).isString = true from rfl, zam]
 rw [h1, zac]; simp only [zaa]; rw [show zzjx .u8 (.int .u8 (Int.ofNat k)) = some (Int.ofNat k) from zai]
 simp only [zaa]; rw [show Int.ofNat k = (k : Int) from rfl]
 simp (disch := omega) only [wrap_i64]
 simp
theorem zym {x s : Nat} (hx : x < 65536) (hs : s < 90) : ∃ k, k <= 16 /\ BL x k /\ jp 219 9 [.int .u32 x, .int .i64 s] t (fun v m => v = .int .i64 ((s + k : Nat) : Int) /\ m = t) := by
 by_cases h : 256 <= x
 ·obtain ⟨k, h1, h2, h3⟩ := zyn (t := t) (x := x / 256) (s := s + 8) (by omega) (by omega)
  refine ⟨k + 8, by omega, ?_, zzhm _ _ ?_⟩
  ·rcases h2 with h2 | ⟨g1, g2, g3⟩
   ·omega
   ·refine .inr ⟨by omega, ?_, ?_⟩
    ·rw [show k + 8 - 1 = (k - 1) + 8 by omega, Nat.pow_add]; omega
    ·rw [Nat.pow_add]; omega
  ·simp (disch := omega) only [z8o, wpT, zdc, wrap_i64]
   rw [if_pos (by omega), show (256 : Int) = ((256 : Nat) : Int) from rfl, zfk, show (s : Int) + 8 = ((s + 8 : Nat) : Int) by omega]
   rw [show s + (k + 8) = s + 8 + k by omega]
   exact h3
 ·obtain ⟨k, h1, h2, h3⟩ := zyn (t := t) (x := x) (s := s) (by omega) (by omega)
  refine ⟨k, by omega, h2, zzhm _ _ ?_⟩
  simp only [z8o, wpT, zdc]; rw [if_neg (by omega)]
  exact h3
theorem zze0 {x : Nat} (hx : x < 4294967296) : ∃ k, k <= 32 /\ BL x k /\ pvC C13 F 219 [.int .u32 x] t = some (.int .i64 (k : Int)) := by
 by_cases h : 65536 <= x
 ·obtain ⟨k, h1, h2, h3⟩ := zym (t := t) (x := x / 65536) (s := 16) (by omega) (by omega)
  refine ⟨k + 16, by omega, ?_, zaz.2 (w219 _ ?_)⟩
  ·rcases h2 with h2 | ⟨g1, g2, g3⟩
   ·omega
   ·refine .inr ⟨by omega, ?_, ?_⟩
    ·rw [show k + 16 - 1 = (k - 1) + 16 by omega, Nat.pow_add]; omega
    ·rw [Nat.pow_add]; omega
  ·simp only [t219, wpT, zdc]
   rw [if_pos (by omega), show (65536 : Int) = ((65536 : Nat) : Int) from rfl, zfk]
   rw [show k + 16 = 16 + k by omega]; exact h3
 ·obtain ⟨k, h1, h2, h3⟩ := zym (t := t) (x := x) (s := 0) (by omega) (by omega)
  refine ⟨k, by omega, h2, zaz.2 (w219 _ ?_)⟩
  simp only [t219, wpT, zdc]; rw [if_neg (by omega)]
  rw [yax] at h3; exact h3
theorem zzag {x : Nat} (hx : x < 4294967296) (h0 : 0 < x) : ∃ s : Nat, s < 32 /\ 2147483648 <= x * 2 ^ s /\ x * 2 ^ s < 4294967296 /\ pvC C13 F 212 [.int .u32 x] t = some (.int .i64 (s : Int)) := by
 obtain ⟨k, h1, h2, h3⟩ := zze0 (t := t) hx
 rcases h2 with h2 | ⟨g1, g2, g3⟩
 ·omega
 ·refine ⟨32 - k, by omega, ?_, ?_, zaz.2 (w212 _ ?_)⟩
  ·have : 2 ^ (k - 1) * 2 ^ (32 - k) = 2147483648 := by rw [<- Nat.pow_add, show k - 1 + (32 - k) = 31 by omega]
   rw [<- this]; exact yaj _ g2
  ·have : 2 ^ k * 2 ^ (32 - k) = 4294967296 := by rw [<- Nat.pow_add, show k + (32 - k) = 32 by omega]
   rw [<- this]; exact Nat.mul_lt_mul_of_pos_right g3 (Nat.pow_pos (Nat.succ_pos 1))
  ·simp (disch := omega) only [t212, wpT, q219, h3, zaa, zai, wrap_i64]
   refine ⟨?_, trivial⟩
   congr 1; omega
end Go.Proofs
namespace Go.Am
theorem zgo {p : List Nat} {n x : Nat} : (p ++ List.replicate (n + 1) 0).set p.length x = (p ++ [x]) ++ List.replicate n 0 := by
 rw [List.set_append_right _ _ (yal _), Nat.sub_self, List.replicate_succ, List.set_cons_zero]; simp
theorem zds (B : Nat) (l : List Nat) (x : Nat) : val B (l ++ [x]) = val B l + B ^ l.length * x := by rw [zfq]; simp [val]
theorem ze4 {B : Nat} {l : List Nat} {x : Nat} (h : zax B l) (hx : x < B) : zax B (l ++ [x]) := zzq h fun y hy => by rw [yce.1 hy]; exact hx
theorem z5i {B : Nat} {r w d : Nat} (hr : r < d) (hw : w < B) : (r * B + w) / d < B := by
 have hd : 0 < d := by omega
 refine ybv ?_
 have : (r + 1) * B <= d * B := yaj B hr
 rw [yap] at this; omega
theorem zgb {l : List Nat} {i x : Nat} (h : l[i]? = some x) : l.take (i + 1) = l.take i ++ [x] := by rw [ych, h]; rfl
theorem zcv {l : List Nat} {i x : Nat} (h : l[i]? = some x) : l.drop i = x :: l.drop (i + 1) := by
 have hi := (yad.1 h)
 rw [yam hi.1, hi.2]
end Go.Am
namespace Go.Am
open Go Go.RowKit
section
variable {t : Tr zak} {C : Ctx}
theorem zzaf {c : Tr zab} {sz : Nat} : ∀ (cl : List (List zab)) (off : Nat), (∀ (i : Nat) cs, cl[i]? = some cs -> cs.length = sz /\ ∀ (j : Nat) a, cs[j]? = some a -> c.get (off + i * sz + j) = some a) -> c.many (cl.length * sz) off = some cl.flatten := by
 intro cl; induction cl with
 | nil => intro off _; simp; rfl
 | cons cs cl ih =>
  intro off h; obtain ⟨h1, h2⟩ := h 0 cs (by simp)
  have hrest := ih (off + sz) fun i cs' hi => by
   obtain ⟨g1, g2⟩ := h (i + 1) cs' (by simpa using hi)
   refine ⟨g1, fun j a hj => ?_⟩
   have := g2 j a hj
   rw [show off + sz + i * sz + j = off + (i + 1) * sz + j by rw [yap]; omega]
   exact this
  have key : ∀ (n : Nat) (l r : List zab) (off : Nat), l.length = n -> (∀ (j : Nat) a, l[j]? = some a -> c.get (off + j) = some a) -> ∀ m, c.many m (off + n) = some r -> c.many (n + m) off = some (l ++ r) := by
   intro n; induction n with
   | zero =>
    intro l r off hl _ m hm; have : l = [] := ybd.1 hl
    subst this; simpa using hm
   | succ n ihn =>
    intro l r off hl hg m hm
    cases l with
    | nil => simp at hl
    | cons a l =>
     rw [show n + 1 + m = (n + m) + 1 by omega, Tr.many_succ]
     have := hg 0 a (by simp)
     rw [ybu] at this; rw [this, zac, ihn l r (off + 1) (by simpa using hl) (fun j b hj => by
      have := hg (j + 1) b (by simpa using hj)
      rw [show off + 1 + j = off + (j + 1) by omega]; exact this) m (by rw [show off + 1 + n = off + (n + 1) by omega]; exact hm)]
     rfl
  rw [List.flatten_cons, yao, yap, Nat.one_mul, Nat.add_comm]; exact key sz cs _ off h1 (fun j a hj => by have := h2 j a hj; rw [Nat.zero_mul, ybu] at this; exact this) _ hrest
theorem zk4.first {sz : Nat} {v : zab} {cl : List (List zab)} (h : zk4 t sz v cl) {n : Nat} : zjx ⟨n, t⟩ sz cl.length v = some cl.flatten /\ zo2 v = some cl.length := by
 rcases h with ⟨rfl, rfl⟩ | ⟨b, off, cap, rfl, _, ⟨c, m, lo, h1, _⟩, h2⟩
 ·exact ⟨rfl, rfl⟩
 ·refine ⟨?_, rfl⟩
  unfold zjx; simp only [zab.asSlice]; unfold zaq; rw [h1, zac]; simp only [zak.asCells, zac]; refine zzaf cl off fun i cs hi => ?_
  obtain ⟨g1, c', m', lo', g2, g3⟩ := h2 i cs hi
  rw [h1] at g2
  cases g2
  exact ⟨g1, g3⟩
theorem z4g {sz : Nat} : ∀ {cl : List (List zab)}, (∀ (i : Nat) cs, cl[i]? = some cs -> cs.length = sz) -> cl.flatten.length = cl.length * sz := by
 intro cl; induction cl with
 | nil => intro _; simp
 | cons c cl ih =>
  intro h; rw [List.flatten_cons, yah, yao, yap, ih fun i cs hi => h (i + 1) cs (by simpa using hi), h 0 c (by simp)]
  omega
theorem zku {sz : Nat} : ∀ {cl : List (List zab)}, (∀ (i : Nat) cs, cl[i]? = some cs -> cs.length = sz) -> ∀ (i j : Nat) cs a, cl[i]? = some cs -> cs[j]? = some a -> cl.flatten[i * sz + j]? = some a := by
 intro cl; induction cl with
 | nil => intro _ i j cs a h; simp at h
 | cons c cl ih =>
  intro h i j cs a hi hj; have hc := h 0 c (by simp)
  rw [List.flatten_cons]
  cases i with
  | zero =>
   simp at hi; subst hi; rw [Nat.zero_mul, yax, ybp (yad.1 hj).1]
   exact hj
  | succ i =>
   rw [yaq (by rw [hc, yap]; omega), hc, show (i + 1) * sz + j - sz = i * sz + j by rw [yap]; omega]
   exact ih (fun i cs hi => h (i + 1) cs (by simpa using hi)) i j cs a (by simpa using hi) hj
theorem zk4.len {sz : Nat} {v : zab} {cl : List (List zab)} (h : zk4 t sz v cl) : ∀ (i : Nat) cs, cl[i]? = some cs -> cs.length = sz := by
 rcases h with ⟨rfl, rfl⟩ | ⟨b, off, cap, rfl, _, _, h2⟩
 ·intro i cs hi; simp at hi
 ·exact fun i cs hi => (h2 i cs hi).1
theorem zsg {sz n : Nat} {cl : List (List zab)} {t' : Tr zak} {lo : Option Lo} (hl : ∀ (i : Nat) cs, cl[i]? = some cs -> cs.length = sz) (h : t'.get n = some (.cells (Tr.ofList cl.flatten) (zbw cl.flatten) lo)) (hlo : lo = none \/ ∃ x, lo = some x /\ x.es = sz) : zk4 t' sz (.slice n 0 cl.length cl.length) cl :=
 .inr ⟨n, 0, cl.length, rfl, yal _, ⟨_, _, _, h, hlo⟩, fun i cs hi => ⟨hl i cs hi, _, _, _, h, fun j a hj => by
  rw [Tr.get_ofList, yax]; exact zku hl i j cs a hi hj⟩⟩
def NB (C : Ctx) (el : Nat) : Prop := ∀ y, C.tys.get el = some y -> zzbh y = false
theorem NB.code {el : Nat} {z : ATy} (h : NB C el) (hz : C.tys.get el = some z) : zep el z = .sz z.size := by
 unfold zep; rw [h z hz, Bool.and_false]; rfl
structure z7h (C : Ctx) (T el sz : Nat) : Prop where
 ty : ∃ y, C.tys.get T = some y /\ y.desc.asSlice = some el /\ Nat.beq y.desc.tag 1 = false
 el : ∃ y, C.tys.get el = some y /\ y.size = sz /\ zbw y.zero = sz /\ y.bytes <= 500 /\ 0 < sz
structure ElTy (C : Ctx) (T e sz : Nat) : Prop where
 ty : ∃ y, C.tys.get T = some y /\ y.desc.asSlice = some e /\ Nat.beq y.desc.tag 1 = false
 el : ∃ y, C.tys.get e = some y /\ y.size = sz /\ zbw y.zero = sz /\ y.bytes <= 500 /\ 0 < sz
 nb : NB C e
theorem z2h {T el sz : Nat} (hT : ElTy C T el sz) {l : List D} {x s : zab} (hx : RSl t sz l x) (hl : l.length < 1000000) {n : Nat} (hn : t.get n = none)
  (hs : s = .nilslice \/ ∃ b c m, s = .slice b 0 0 0 /\ t.get b = some (.cells c m none)) :
  ∃ v H', zci C T T s x ⟨n, t⟩ = some (v, H') /\ RSl H'.t sz l v /\ TLe t H'.t /\ Off n t H'.t := by
 obtain ⟨⟨y, hy1, hy2, hy3⟩, ⟨z, hz1, hz2, hz3, hz4, hz5⟩, hnb⟩ := hT
 have hcode := NB.code hnb hz1
 obtain ⟨cl, he, hd⟩ := hx
 have hcl := hd.length
 obtain ⟨hf, hlen⟩ := he.first (n := n)
 have hall := he.len
 have base : zci C T T s x ⟨n, t⟩ = (match s.asSlice with
  | some s => bif Nat.ble (s.2.2.1 + cl.length) s.2.2.2 then zhz C ⟨n, t⟩ z cl.length cl.flatten s else zja C ⟨n, t⟩ el z cl.length cl.flatten s
  | none => zaj (Nat.beq s.tag 5) (zgh ⟨n, t⟩ el z cl.length cl.flatten)) := by
  unfold zci zjl; rw [hy1, zac, zac, hy3]; simp only [ybm, zam]; rw [hy2, zac, hz1, zac, hlen, zac, hz2, hf, zac]; rfl
 have hfl : zbw cl.flatten = cl.length * sz := by rw [za1]; exact z4g hall
 have ok : zm2 z 0 0 cl.length cl.flatten = true := by
  unfold zm2; have h1 : Nat.blt (0 + cl.length + 0) 1000000000 = true := zc8.2 (by omega)
  have h2 : Nat.blt ((0 + cl.length + 0) * z.bytes) 1000000000 = true := zc8.2 (by
   have := ycc (show 0 + cl.length + 0 <= 1000000 by omega) hz4
   omega)
  have h3 : Nat.blt z.bytes 1000000000 = true := zc8.2 (by omega)
  have h4 : (!Nat.beq z.size 0) = true := by
   cases hq : Nat.beq z.size 0 with
   | true => have := zcy.1 hq; omega
   | false => rfl
  have h5 : Nat.beq (zbw cl.flatten) (cl.length * z.size) = true := by rw [hfl, hz2]; exact zcy.2 rfl
  have h6 : Nat.beq (zbw z.zero) z.size = true := by rw [hz3, hz2]; exact zcy.2 rfl
  rw [h1, h2, h3, h4, h5, h6]; rfl
 have newT : ∀ (q : zak), TLe t (t.set n q) /\ Off n t (t.set n q) := fun q => ⟨fun c u hc => by
   rw [Tr.get_set, if_neg (by intro e; rw [e, hn] at hc; cases hc)]; exact hc, fun c hc => by rw [Tr.get_set, if_neg hc]⟩
 rcases hs with rfl | ⟨b, c, m, rfl, hb⟩
 ·by_cases h0 : cl.length = 0
  ·have : cl = [] := ybd.1 h0
   subst this; refine ⟨.nilslice, ⟨n, t⟩, ?_, ⟨[], .inl ⟨rfl, rfl⟩, hd⟩, TLe.refl _, Off.refl _ _⟩
   rw [base]; rfl
  ·refine ⟨.slice n 0 cl.length cl.length, ⟨n + 1, t.set n (.cells (Tr.ofList cl.flatten) (zbw cl.flatten) (some (zep el z)))⟩, ?_, ⟨cl, zsg hall (show (t.set n _).get n = _ by rw [Tr.get_set, if_pos rfl]) (.inr ⟨_, rfl, by rw [zon, hz2]⟩), RDs.mono (newT _).1 _ _ hd⟩, (newT _).1, (newT _).2⟩
   rw [base]; simp only [zab.asSlice]; show zaj true (zgh ⟨n, t⟩ el z cl.length cl.flatten) = _
   rw [zam]; unfold zgh; have : Nat.beq cl.length 0 = false := by
    cases hq : Nat.beq cl.length 0 with
    | true => exact absurd (zcy.1 hq) h0
    | false => rfl
   rw [this, cond_false, ok]; rfl
 ·by_cases h0 : cl.length = 0
  ·have : cl = [] := ybd.1 h0
   subst this; refine ⟨.slice b 0 0 0, ⟨n, t⟩, ?_, ⟨[], .inr ⟨b, 0, 0, rfl, yal _, ⟨c, m, none, hb, .inl rfl⟩, fun i cs hi => by simp at hi⟩, hd⟩, TLe.refl _, Off.refl _ _⟩
   rw [base]; rfl
  ·refine ⟨.slice n 0 cl.length cl.length, ⟨n + 1, t.set n (.cells (Tr.ofList cl.flatten) (zbw cl.flatten) (some (zep el z)))⟩, ?_, ⟨cl, zsg hall (show (t.set n _).get n = _ by rw [Tr.get_set, if_pos rfl]) (.inr ⟨_, rfl, by rw [zon, hz2]⟩), RDs.mono (newT _).1 _ _ hd⟩, (newT _).1, (newT _).2⟩
   rw [base]; simp only [zab.asSlice]; have : Nat.ble (0 + cl.length) 0 = false := by
    cases hq : Nat.ble (0 + cl.length) 0 with
    | true => have := zh2.1 hq; omega
    | false => rfl
   rw [this, cond_false]; unfold zja; simp only []; rw [show ∀ x, (!(Nat.beq 0 1 && x)) = true from fun _ => rfl, zam, ok, zam]
   unfold zaq; rw [hb, zac]; simp only [zak.asCells, zac]; unfold ziv; simp only [Nat.zero_mul]; show ob (c.many 0 0) _ = _
   rw [show c.many 0 0 = some [] from rfl, zac]; rw [zb7, List.nil_append, yax]; rfl
end
end Go.Am
namespace Go.Proofs
open Go Go.Am
variable [zcb]
variable {t : Tr zak}
theorem el305 : ElTy C13 200 202 1 := ⟨⟨_, zmc, rfl, rfl⟩, ⟨_, zeq, rfl, rfl, by decide, by decide⟩, fun y h => by rw [zeq] at h; cases h; rfl⟩
theorem lit0 {T el : Nat} {y z : ATy} (hT : C13.tys.get T = some y) (hel : y.desc.asSlice = some el) (hz : C13.tys.get el = some z) (hs : zbw z.zero = z.size) {b : Nat} (hb : t.get b = none) :
  ∃ H', za5 C13 T 0 [] ⟨b, t⟩ = some (.slice b 0 0 0, H') /\ (∃ c, H'.t.get b = some (.cells c 0 none)) /\ TLe t H'.t := by
 refine ⟨za0 ⟨b, t⟩ [] none, ?_, ⟨Tr.ofList [], ?_⟩, ?_⟩
 ·unfold za5
  rw [hT, zac, hel, zac, hz, zac]; have : (Nat.blt (0 * z.size) 1000000 && Nat.beq (zbw z.zero) z.size) = true := by rw [Nat.zero_mul, hs, zcy.2 rfl]; rfl
  rw [this]; rfl
 ·show (t.set b _).get b = _
  rw [Tr.get_set, if_pos rfl]; rfl
 ·intro c u hc
  show (t.set b _).get c = _
  rw [Tr.get_set, if_neg (by intro e; rw [e, hb] at hc; cases hc)]; exact hc
theorem zzga {l : List Nat} {v : zab} {Q : zao} (hv : RSl t 1 (za2 .u32 l) v) (hl : l.length < 1000000)
  (hQ : ∀ t' v', TLe t t' -> RSl t' 1 (za2 .u32 l) v' -> Q v' t') : Wc C13 F 214 [v] t Q := by
 refine w214 _ ?_
 have e : (binA .eql).f C13 200 (.tmp 3) (.const (.slice none 0 0)) v .nilslice = some (.bool (Nat.beq v.tag 5)) := by
  obtain ⟨cl, h1, _⟩ := hv
  rcases h1 with ⟨rfl, _⟩ | ⟨b, off, cap, rfl, _⟩
  ·kernel_rfl
  ·kernel_rfl
 simp only [t214, wpT, e, zaa, ze1]; split
 ·rename_i h
  have : v = .nilslice := (zk9.2.1).1 (zcy.1 h)
  subst this; exact hQ _ _ (TLe.refl _) hv
 ·intro b hb hbase
  obtain ⟨H1, g1, ⟨c, g2⟩, g3⟩ := lit0 (t := t) zmc rfl zeq rfl hb
  rw [g1]; simp only [zaa]; intro n hn _; obtain ⟨u, H', g4, g5, g6, _⟩ := z2h el305 (hv.mono g3) (by rw [zav]; exact hl) hn (.inr ⟨b, c, 0, rfl, g2⟩)
  rw [g4]; simp only [zaa]; exact hQ _ _ (g3.trans g6) g5
def zt0 (n : Nat) : List Nat := zc9 [n % 4294967296, n / 4294967296]
theorem z43 (n : Nat) : val 4294967296 (zt0 n) = n := by unfold zt0; rw [zdl]; simp only [val]; omega
theorem zzp {n : Nat} (h : n < 18446744073709551616) : zax 4294967296 (zt0 n) := zdf fun x hx => by
 simp at hx; omega
theorem z1b (n : Nat) : norm (zt0 n) := zdz _
theorem zwb {T el : Nat} {y z : ATy} {k : IntKind} (hT : C13.tys.get T = some y) (hel : y.desc.asSlice = some el) (hz : C13.tys.get el = some z) (hzero : z.zero = [.int k 0]) (hs : z.size = 1) (x : Nat) (hk : True) {b : Nat} (hb : t.get b = none) :
  ∃ H', za5 C13 T 1 [(0, .int k (x : Int))] ⟨b, t⟩ = some (.slice b 0 1 1, H') /\ Own H'.t b k [x] /\ TLe t H'.t := by
 refine ⟨za0 ⟨b, t⟩ [.int k (x : Int)] none, ?_, ⟨Tr.ofList [.int k (x : Int)], ?_, fun j u hj => ?_⟩, ?_⟩
 ·unfold za5
  rw [hT, zac, hel, zac, hz, zac, hs, hzero]; rfl
 ·show (t.set b _).get b = _
  rw [Tr.get_set, if_pos rfl]; rfl
 ·rw [Tr.get_ofList]
  cases j with
  | zero => simp at hj; subst hj; rfl
  | succ j => simp at hj
 ·intro c u hc
  show (t.set b _).get c = _
  rw [Tr.get_set, if_neg (by intro e; rw [e, hb] at hc; cases hc)]; exact hc
theorem zzew {T el : Nat} {y z : ATy} {k : IntKind} (hT : C13.tys.get T = some y) (hel : y.desc.asSlice = some el) (hz : C13.tys.get el = some z) (hzero : z.zero = [.int k 0]) (hs : z.size = 1) (x x' : Nat) {b : Nat} (hb : t.get b = none) :
  ∃ H', za5 C13 T 2 [(0, .int k (x : Int)), (1, .int k (x' : Int))] ⟨b, t⟩ = some (.slice b 0 2 2, H') /\ Own H'.t b k [x, x'] /\ TLe t H'.t := by
 refine ⟨za0 ⟨b, t⟩ [.int k (x : Int), .int k (x' : Int)] none, ?_, ⟨Tr.ofList [.int k (x : Int), .int k (x' : Int)], ?_, fun j u hj => ?_⟩, ?_⟩
 ·unfold za5
  rw [hT, zac, hel, zac, hz, zac, hs, hzero]; rfl
 ·show (t.set b _).get b = _
  rw [Tr.get_set, if_pos rfl]; rfl
 ·rw [Tr.get_ofList]
  cases j with
  | zero => simp at hj; subst hj; rfl
  | succ j =>
   cases j with
   | zero => simp at hj; subst hj; rfl
   | succ j => simp at hj
 ·intro c u hc
  show (t.set b _).get c = _
  rw [Tr.get_set, if_neg (by intro e; rw [e, hb] at hc; cases hc)]; exact hc
theorem zzd3 {n : Nat} {Q : zao} (hn : n < 18446744073709551616) (hQ : ∀ t' v', TLe t t' -> RSl t' 1 (za2 .u32 (zt0 n)) v' -> Q v' t') : Wc C13 F 208 [.int .u64 n] t Q := by
 refine w208 _ ?_
 have e1 : zag .u32 (n : Int) = ((n % 4294967296 : Nat) : Int) := by rw [zdk]; omega
 have e2 : zag .u32 (Int.fdiv (n : Int) 4294967296) = ((n / 4294967296 : Nat) : Int) := by
  rw [show Int.fdiv (n : Int) 4294967296 = ((n / 4294967296 : Nat) : Int) from zfk _ 4294967296, zgm (by omega) (by omega)]
 simp only [t208, wpT, e1, e2]; intro b hb _; obtain ⟨H', g1, g2, g3⟩ := zzew (t := t) (k := .u32) zmc rfl zeq rfl rfl (n % 4294967296) (n / 4294967296) hb
 rw [g1]; simp only [zaa]; obtain ⟨v', h1, h2⟩ := zlr (l := [n % 4294967296, n / 4294967296]) (by simp) (g2.all (yal _))
 simp only [q174]; have h1 : pvC C13 F 174 [.slice b 0 2 2] H'.t = some v' := h1
 rw [h1]; exact hQ _ _ g3 h2
theorem z0g {l : List Nat} {v : zab} {b : Nat} {neg : Bool} {Q : zao} (hv : RSl t 1 (za2 .u32 l) v) (hl : l.length < 400000) (hlt : zax 4294967296 l) (hne : l ≠ []) (hnorm : norm l) (hbase : C13.base <= b) (hb : t.get b = none)
  (hQ : ∀ t' v', TLe t t' -> RSl t' 1 (za2 .u16 (zc9 (zb1 l))) v' -> Q (.agg [.bool neg, v']) t') : ∀ (k i : Nat) (t' : Tr zak), i + k = l.length -> TLe t t' -> Own t' b .u16 (zb1 (l.take i) ++ List.replicate (2 * k) 0) →
  jp 193 2 [.bool neg, .slice b 0 (2 * l.length) (2 * l.length), v, .int .i64 l.length, .int .i64 i, .bool false, .nilslice] t' Q := by
 intro k; induction k with
 | zero =>
  intro i t' hi ht ho; refine zzhu _ _ _ _ _ _ _ ?_
  rw [ybb (by omega), Nat.mul_zero, List.replicate_zero, ybe] at ho
  obtain ⟨m, w, rfl⟩ := zmt hne
  have hw : w ≠ 0 := by have := hnorm (by simp); simpa using this
  have hwlt : w < 4294967296 := hlt w (by simp)
  have hul : (zb1 (m ++ [w])).length = 2 * (m ++ [w]).length := zfs _
  have hml : (m ++ [w]).length = m.length + 1 := by simp
  have hlast : (zb1 (m ++ [w]))[2 * m.length + 1]? = some (w / 65536) := by
   rw [zg3, yaq (by rw [zfs]; omega), zfs]
   rw [show 2 * m.length + 1 - 2 * m.length = 1 by omega]; rfl
  have hread := ho.all (cap := 2 * (m ++ [w]).length) (by omega)
  rw [hul] at hread; have g3 : zah C13 22 (.slice b 0 (2 * (m ++ [w]).length) (2 * (m ++ [w]).length)) (.int .i64 ((2 * m.length + 1 : Nat) : Int)) = some (.ptr b (0 + (2 * m.length + 1) * 1)) := zdb sl22 (by omega)
  rw [show 0 + (2 * m.length + 1) * 1 = 2 * m.length + 1 by omega] at g3
  have g4 := ho.load hlast ty50 rfl
  have e1 : ((2 * (m ++ [w]).length : Nat) : Int) - 1 = ((2 * m.length + 1 : Nat) : Int) := by rw [hml]; omega
  have hlen : zbm (.slice b 0 (2 * (m ++ [w]).length) (2 * (m ++ [w]).length)) = some (.int .i64 ((2 * (m ++ [w]).length : Nat) : Int)) := rfl
  have hb2 : 2 * m.length + 1 < 1000000 := by omega
  simp (disch := omega) only [z81, wpT, zbo, hlen, zaa, zai, e1, wrap_i64, g3, g4, zen]
  rw [if_neg (by omega)]
  by_cases hz : w / 65536 = 0
  ·rw [if_pos (by rw [hz]; rfl)]
   obtain ⟨u, g5, g6⟩ := zpi.front sl22 hread (k := 2 * m.length + 1) (by rw [zav, hul]; omega)
   rw [g5]; simp only [zaa]; have hone : zd9 zab.one [.bool neg, u] = true := by
    show (bif zab.one (.bool neg) then (bif zab.one u then true else false) else false) = true
    rw [g6.one]; rfl
   rw [if_pos hone, if_pos hone]; refine hQ _ _ ht ?_
   rw [zuw] at g6; rw [zmg hw, if_pos hz]; have : (zb1 (m ++ [w])).take (2 * m.length + 1) = zb1 m ++ [w % 65536] := by
    rw [zg3, show zb1 m ++ [w % 65536, w / 65536] = (zb1 m ++ [w % 65536]) ++ [w / 65536] by simp]
    rw [List.take_left' (by simp [zfs])]
   rw [this] at g6; exact g6
  ·rw [if_neg (by omega)]
   have hone : zd9 zab.one [.bool neg, .slice b 0 (2 * (m ++ [w]).length) (2 * (m ++ [w]).length)] = true := rfl
   rw [if_pos hone, if_pos hone]; refine hQ _ _ ht ?_
   rw [zmg hw, if_neg hz]; exact hread
 | succ k ih =>
  intro i t' hi ht ho; obtain ⟨x, hx⟩ := getElem?_of_lt (l := l) (i := i) (by omega)
  have hxlt : x < 4294967296 := zbu hlt hx
  obtain ⟨c, off, g1, g2⟩ := (hv.mono ht).idx zd0 hx
  have htl : (l.take i).length = i := by simp; omega
  have hpl : (zb1 (l.take i)).length = 2 * i := by rw [zfs, htl]
  have hlen0 : (zb1 (l.take i) ++ List.replicate (2 * (k + 1)) 0).length = 2 * l.length := by simp [hpl]; omega
  have g3 : ∀ j, j < 2 * l.length -> zah C13 22 (.slice b 0 (2 * l.length) (2 * l.length)) (.int .i64 (j : Int)) = some (.ptr b j) := by
   intro j hj; have := zdb (b := b) (off := 0) (cap := 2 * l.length) sl22 hj
   rw [show 0 + j * 1 = j by omega] at this; exact this
  have g3a := g3 (2 * i) (by omega)
  have g3b := g3 (2 * i + 1) (by omega)
  obtain ⟨t1, s1, s2, s3⟩ := ho.store (C := C13) hbase (j := 2 * i) (by rw [hlen0]; omega) (x % 65536) ty50 rfl
  have hs2 : (zb1 (l.take i) ++ List.replicate (2 * (k + 1)) 0).set (2 * i) (x % 65536) = (zb1 (l.take i) ++ [x % 65536]) ++ List.replicate (2 * k + 1) 0 := by
   rw [<- hpl, show 2 * (k + 1) = (2 * k + 1) + 1 by omega]; exact zgo
  rw [hs2] at s2; obtain ⟨t2, s4, s5, s6⟩ := s2.store (C := C13) hbase (j := 2 * i + 1) (by simp [hpl]) (x / 65536) ty50 rfl
  have hs5 : ((zb1 (l.take i) ++ [x % 65536]) ++ List.replicate (2 * k + 1) 0).set (2 * i + 1) (x / 65536) = zb1 (l.take (i + 1)) ++ List.replicate (2 * k) 0 := by
   have hq : (zb1 (l.take i) ++ [x % 65536]).length = 2 * i + 1 := by simp [hpl]
   rw [<- hq, zgo, zgb hx, zg3]; simp
  rw [hs5] at s5; have e1 : zag .u16 (x : Int) = ((x % 65536 : Nat) : Int) := by rw [z7p]; omega
  have e2 : zag .u16 (Int.fdiv (x : Int) 65536) = ((x / 65536 : Nat) : Int) := by
   rw [show Int.fdiv (x : Int) 65536 = ((x / 65536 : Nat) : Int) from zfk _ 65536, zzdj (by omega) (by omega)]
  have e3 : (2 : Int) * (i : Int) = ((2 * i : Nat) : Int) := by omega
  have e4 : ((2 * i : Nat) : Int) + 1 = ((2 * i + 1 : Nat) : Int) := by omega
  refine zzhu _ _ _ _ _ _ _ ?_
  simp (disch := omega) only [z81, wpT, zbo, g1, g2, zaa, zai, e1, e2, e3, e4, wrap_i64, g3a, g3b]
  rw [if_pos (by omega)]
  intro d _ _; rw [s1]; simp only [zaa]; intro d' _ _; rw [s4]; simp only [zaa]; have := ih (i + 1) t2 (by omega) ((ht.off hb s3).off hb s6) s5
  rw [show ((i + 1 : Nat) : Int) = (i : Int) + 1 by omega] at this
  exact this
theorem z76 {l : List Nat} {v : zab} {neg : Bool} {Q : zao} (hv : RSl t 1 (za2 .u32 l) v) (hl : l.length < 400000) (hlt : zax 4294967296 l)
  (hQ : ∀ t' v', TLe t t' -> RSl t' 1 (za2 .u16 (zc9 (zb1 (zc9 l)))) v' -> Q (.agg [.bool (if zc9 l = [] then false else neg), v']) t') : Wc C13 F 193 [.bool neg, v] t Q := by
 refine w193 _ _ ?_
 obtain ⟨u, h1, h2⟩ := zlr (l := l) (by omega) hv
 have hsl := zqt l
 simp only [t193, wpT, q174, h1, zaa, h2.len, zai, zav, zen]; by_cases h0 : zc9 l = []
 ·rw [if_pos (by rw [h0]; rfl)]
  simp only [if_true]; have := hQ t .nilslice (TLe.refl _) (by rw [h0]; exact ⟨[], .inl ⟨rfl, rfl⟩, by simp [zb1, zc9, za2, RDs]⟩)
  rw [if_pos h0] at this; exact this
 ·have hpos : 0 < (zc9 l).length := List.length_pos_iff.2 h0
  rw [if_neg (by omega)]
  have e1 : (2 : Int) * ((zc9 l).length : Int) = ((2 * (zc9 l).length : Nat) : Int) := by omega
  simp (disch := omega) only [e1, wrap_i64]
  intro b hb hbase; obtain ⟨t', g1, g2, g3, _⟩ := zkn (C := C13) (k := .u16) ty22 rfl ty50 rfl rfl (by decide) (n := 2 * (zc9 l).length) (by omega) hb
  rw [g1]; simp only [zaa]; refine z0g h2 (by omega) (zdf hlt) h0 (zdz l) hbase hb (fun t2 v2 a b => ?_) (zc9 l).length 0 t' (by omega) g3 (by simpa [zb1] using g2)
  have := hQ t2 v2 a b
  rw [if_neg h0] at this; exact this
end Go.Proofs
namespace Go.Proofs
open Go Go.Am
variable [zcb]
variable {t : Tr zak}
theorem zl2 {T el : Nat} (h : zpi C13 T el 1 false) {b n cap j : Nat} (hj : j < n) : zah C13 T (.slice b 0 n cap) (.int .i64 (j : Int)) = some (.ptr b j) := by
 have := zdb (b := b) (off := 0) (cap := cap) h hj
 rw [show 0 + j * 1 = j by omega] at this; exact this
theorem z4b {x s : Nat} (hs : s < 64) (hx : x * 2 ^ s < 18446744073709551616) : zzbk .u64 (x : Int) (s : Int) = some (.int .u64 ((x * 2 ^ s : Nat) : Int)) := by
 unfold zzbk zq0; have : ziq (s : Int) = some s := rfl
 rw [this, zac, zac]; have hm : min s (IntKind.bits .u64) = s := by show min s 64 = s; omega
 rw [hm]; have e : (x : Int) * Int.ofNat (2 ^ s) = ((x * 2 ^ s : Nat) : Int) := by rw [Int.natCast_mul]; rfl
 rw [e, za3 (by omega) (by omega)]
theorem z4a {x s : Nat} (hs : s < 65) : zzjz .u64 (x : Int) (s : Int) = some (.int .u64 ((x / 2 ^ s : Nat) : Int)) := by
 unfold zzjz zq0; have : ziq (s : Int) = some s := rfl
 rw [this, zac, zac]; have hm : min s (IntKind.bits .u64) = s := by show min s 64 = s; omega
 rw [hm]; have e : Int.fdiv (x : Int) (Int.ofNat (2 ^ s)) = ((x / 2 ^ s : Nat) : Int) := zfk x (2 ^ s)
 rw [e]
theorem z9t {s : Nat} (hs : s < 32) : 2 ^ s <= 2147483648 := Nat.pow_le_pow_right (n := 2) (by decide) (show s <= 31 by omega)
theorem zx8 {s : Nat} (hs : s <= 32) : 2 ^ s * 2 ^ (32 - s) = 4294967296 := by rw [<- Nat.pow_add, show s + (32 - s) = 32 by omega]
theorem zzjh {x s : Nat} (hs : s <= 32) : (x * 2 ^ s % 4294967296) % 2 ^ s = 0 := by
 rw [<- zx8 hs, yai x, Nat.mul_mod_mul_left, Nat.mul_mod_right]
theorem zxr {l : List Nat} {v : zab} {b s : Nat} {Q : zao} (hv : RSl t 1 (za2 .u32 l) v) (hl : l.length < 900000) (hlt : zax 4294967296 l) (hs : s < 32) (hbase : C13.base <= b) (hb : t.get b = none)
  (hQ : ∀ t' r, TLe t t' -> Off b t t' -> Own t' b .u32 r -> r.length = l.length + 1 -> zax 4294967296 r -> val 4294967296 r = val 4294967296 l * 2 ^ s -> Q (.slice b 0 (l.length + 1) (l.length + 1)) t') :
  ∀ (k i : Nat) (t' : Tr zak) (P : List Nat) (c : Nat), i + k = l.length -> TLe t t' -> Off b t t' -> Own t' b .u32 ((P ++ [c]) ++ List.replicate k 0) -> P.length = i -> c < 2 ^ s -> zax 4294967296 P -> val 4294967296 P + 4294967296 ^ i * c = val 4294967296 (l.take i) * 2 ^ s →
  jp 215 2 [.int .i64 s, .slice b 0 (l.length + 1) (l.length + 1), v, .int .i64 l.length, .int .i64 i] t' Q := by
 have hp2 := z9t hs
 intro k; induction k with
 | zero =>
  intro i t' P c hi ht hoff ho hP hc hPl hval; refine zzhp _ _ _ _ _ ?_
  simp only [z8t, wpT, zbo]; rw [if_neg (by omega)]
  rw [List.replicate_zero, ybe] at ho; refine hQ t' (P ++ [c]) ht hoff ho (by simp; omega) (ze4 hPl (by omega)) ?_
  rw [zds, hP, hval, ybb (by omega)]
 | succ k ih =>
  intro i t' P c hi ht hoff ho hP hc hPl hval; obtain ⟨x, hx⟩ := getElem?_of_lt (l := l) (i := i) (by omega)
  have hxlt : x < 4294967296 := zbu hlt hx
  obtain ⟨d, off, g1, g2⟩ := (hv.mono ht).idx zd0 hx
  have hxs : x * 2 ^ s < 4294967296 * 2 ^ s := Nat.mul_lt_mul_of_pos_right hxlt (Nat.pow_pos (by decide))
  have hxs2 : x * 2 ^ s < 18446744073709551616 := by
   have : 4294967296 * 2 ^ s <= 4294967296 * 2147483648 := yaw _ hp2
   omega
  have hlow := zzjh (x := x) (s := s) (by omega)
  have hlor : Nat.lor c (x * 2 ^ s % 4294967296) = x * 2 ^ s % 4294967296 + c := by
   have := or_low (a := x * 2 ^ s % 4294967296) (b := c) (n := s) hc hlow
   show c ||| _ = _
   rw [Nat.or_comm]; exact this
  have hsum : x * 2 ^ s % 4294967296 + c < 4294967296 := by
   have h1 : x * 2 ^ s % 4294967296 < 4294967296 := ybz _ (by decide)
   have h2 : (4294967296 : Nat) % 2 ^ s = 0 := by rw [<- zx8 (s := s) (by omega), Nat.mul_mod_right]
   obtain ⟨p, hp⟩ := Nat.dvd_of_mod_eq_zero hlow
   obtain ⟨q, hq⟩ := Nat.dvd_of_mod_eq_zero h2
   have hpq : p < q := by
    rcases Nat.lt_or_ge p q with g | g
    ·exact g
    ·have := yaw (2 ^ s) g; omega
   have := yaw (2 ^ s) (show p + 1 <= q from hpq)
   rw [yan] at this; omega
  have hhigh : x * 2 ^ s / 4294967296 < 2 ^ s := ybv (by omega)
  have hlen0 : ((P ++ [c]) ++ List.replicate (k + 1) 0).length = l.length + 1 := by simp; omega
  have g3a := zl2 zd0 (b := b) (n := l.length + 1) (cap := l.length + 1) (j := i) (by omega)
  have g3b := zl2 zd0 (b := b) (n := l.length + 1) (cap := l.length + 1) (j := i + 1) (by omega)
  have g4 := ho.load (j := i) (x := c) (by rw [yba, yaq (by omega), hP, Nat.sub_self]; rfl) zeq rfl
  obtain ⟨t1, s1, s2, s3⟩ := ho.store (C := C13) hbase (j := i) (by rw [hlen0]; omega) (x * 2 ^ s % 4294967296 + c) zeq rfl
  have hs2 : ((P ++ [c]) ++ List.replicate (k + 1) 0).set i (x * 2 ^ s % 4294967296 + c) = (P ++ [x * 2 ^ s % 4294967296 + c]) ++ List.replicate (k + 1) 0 := by
   rw [yba, set_append_right hP]; simp
  rw [hs2] at s2; obtain ⟨t2, s4, s5, s6⟩ := s2.store (C := C13) hbase (j := i + 1) (by simp; omega) (x * 2 ^ s / 4294967296) zeq rfl
  have hs5 : ((P ++ [x * 2 ^ s % 4294967296 + c]) ++ List.replicate (k + 1) 0).set (i + 1) (x * 2 ^ s / 4294967296) = ((P ++ [x * 2 ^ s % 4294967296 + c]) ++ [x * 2 ^ s / 4294967296]) ++ List.replicate k 0 := by
   have hq : (P ++ [x * 2 ^ s % 4294967296 + c]).length = i + 1 := by simp [hP]
   rw [<- hq]; exact zgo
  rw [hs5] at s5; refine zzhp _ _ _ _ _ ?_
  have e1 : zag .u32 ((x * 2 ^ s : Nat) : Int) = ((x * 2 ^ s % 4294967296 : Nat) : Int) := by rw [zdk]; omega
  have e2 : zag .u32 (Int.fdiv ((x * 2 ^ s : Nat) : Int) 4294967296) = ((x * 2 ^ s / 4294967296 : Nat) : Int) := by
   rw [show Int.fdiv ((x * 2 ^ s : Nat) : Int) 4294967296 = ((x * 2 ^ s / 4294967296 : Nat) : Int) from zfk _ 4294967296]
   generalize x * 2 ^ s = z at hhigh ⊢
   rw [zgm (by omega) (by omega)]
  simp (disch := omega) only [z8t, wpT, zbo, g1, g2, zaa, zai, za3, g3a, g4]
  rw [if_pos (by omega), z4b (by omega) hxs2]
  simp only [zaa, zai, e1]; have e3 : zfz Nat.lor .u32 (c : Int) ((x * 2 ^ s % 4294967296 : Nat) : Int) = some (.int .u32 ((x * 2 ^ s % 4294967296 + c : Nat) : Int)) := by
   rw [zea (k := .u32) (x := c) (y := x * 2 ^ s % 4294967296) (show c < kHi .u32 by show c < 4294967296; omega) (by show x * 2 ^ s % 4294967296 < 4294967296; exact ybz _ (by decide)), hlor]
  rw [e3]; simp only [zaa, zai]; intro _ _ _; rw [s1]; simp (disch := omega) only [zaa, wrap_i64]
  rw [show (i : Int) + 1 = ((i + 1 : Nat) : Int) by omega, g3b]
  simp only [zaa, e2]; intro _ _ _; rw [s4]; simp only [zaa]; refine ih (i + 1) t2 _ _ (by omega) ((ht.off hb s3).off hb s6) ((hoff.trans s3).trans s6) s5 (by simp [hP]) hhigh (ze4 hPl hsum) ?_
  rw [zds, hP, zgb hx, zds, yap, <- hval]; have : (l.take i).length = i := by simp; omega
  rw [this, Nat.pow_succ]; have hd := ybi (x * 2 ^ s) 4294967296
  have e4 : 4294967296 ^ i * x * 2 ^ s = 4294967296 ^ i * (4294967296 * (x * 2 ^ s / 4294967296) + x * 2 ^ s % 4294967296) := by rw [hd, yak]
  rw [e4, yan, yan]; have e5 : 4294967296 ^ i * 4294967296 * (x * 2 ^ s / 4294967296) = 4294967296 ^ i * (4294967296 * (x * 2 ^ s / 4294967296)) := by rw [yak]
  rw [e5]; omega
theorem zt2 {l : List Nat} {v : zab} {s : Nat} {Q : zao} (hv : RSl t 1 (za2 .u32 l) v) (hl : l.length < 900000) (hlt : zax 4294967296 l) (hs : s < 32)
  (hQ : ∀ t' b r, TLe t t' -> t.get b = none -> C13.base <= b -> Own t' b .u32 r -> r.length = l.length + 1 -> zax 4294967296 r -> val 4294967296 r = val 4294967296 l * 2 ^ s -> Q (.slice b 0 (l.length + 1) (l.length + 1)) t') : Wc C13 F 215 [v, .int .i64 s] t Q := by
 refine w215 _ _ ?_
 simp (disch := omega) only [t215, wpT, hv.len, zaa, zai, zav, wrap_i64]
 intro b hb hbase; obtain ⟨t', g1, g2, g3, g4⟩ := zkn (C := C13) (k := .u32) zmc rfl zeq rfl rfl (by decide) (n := l.length + 1) (by omega) hb
 rw [show (l.length : Int) + 1 = ((l.length + 1 : Nat) : Int) by omega, g1]
 simp only [zaa]; have := zxr hv hl hlt hs hbase hb (fun t' r a _ c d e f => hQ t' b r a hb hbase c d e f) l.length 0 t' [] 0 (by omega) g3 g4 (by simpa [List.replicate_succ] using g2) rfl (Nat.pow_pos (by decide)) (fun x hx => by cases hx) (by simp [val])
 exact this
theorem z12 {l : List Nat} {v : zab} {b d : Nat} {Q : zao} (hv : RSl t 1 (za2 .u32 l) v) (hl : l.length < 900000) (hlt : zax 4294967296 l) (hd : d < 4294967296) (hd0 : 0 < d) (hbase : C13.base <= b) (hb : t.get b = none)
  (hQ : ∀ t' v' q r, TLe t t' -> RSl t' 1 (za2 .u32 (zc9 q)) v' -> zax 4294967296 q -> q.length = l.length -> r < d -> val 4294967296 l = val 4294967296 q * d + r -> Q (.tup [v', .int .u32 (r : Nat)]) t') :
  ∀ (i : Nat) (t' : Tr zak) (q : List Nat) (r : Nat), i <= l.length -> TLe t t' -> Own t' b .u32 (List.replicate i 0 ++ q) -> q.length = l.length - i -> zax 4294967296 q -> r < d -> val 4294967296 (l.drop i) = val 4294967296 q * d + r →
  jp 152 2 [v, .int .u32 d, .slice b 0 l.length l.length, .int .u32 r, .int .i64 ((i : Int) - 1)] t' Q := by
 intro i; induction i with
 | zero =>
  intro t' q r _ ht ho hq hql hr hval; refine zzhx _ _ _ _ _ ?_
  simp only [z84, wpT, zdc]; rw [if_neg (by omega)]
  rw [List.replicate_zero, List.nil_append] at ho; have hread := ho.all (yal _)
  have hqlen : q.length = l.length := by omega
  rw [hqlen] at hread; obtain ⟨v', h1, h2⟩ := zlr (l := q) (by omega) hread
  simp only [q174, h1, zaa]; exact hQ t' v' q r ht h2 hql hqlen hr (by simpa using hval)
 | succ i ih =>
  intro t' q r hi ht ho hq hql hr hval; obtain ⟨x, hx⟩ := getElem?_of_lt (l := l) (i := i) (by omega)
  have hxlt : x < 4294967296 := zbu hlt hx
  obtain ⟨c, off, g1, g2⟩ := (hv.mono ht).idx zd0 hx
  have e1 : ((i + 1 : Nat) : Int) - 1 = (i : Int) := by omega
  have g3 := zl2 zd0 (b := b) (n := l.length) (cap := l.length) (j := i) (by omega)
  have hlen0 : (List.replicate (i + 1) 0 ++ q).length = l.length := by simp; omega
  have hdiv := zzf0 (t := t') hr hxlt hd
  have hqlt : (r * 4294967296 + x) / d < 4294967296 := z5i hr hxlt
  have hrlt : (r * 4294967296 + x) % d < d := ybz _ hd0
  obtain ⟨t1, s1, s2, s3⟩ := ho.store (C := C13) hbase (j := i) (by rw [hlen0]; omega) ((r * 4294967296 + x) / d) zeq rfl
  have hs2 : (List.replicate (i + 1) 0 ++ q).set i ((r * 4294967296 + x) / d) = List.replicate i 0 ++ ((r * 4294967296 + x) / d :: q) := by
   rw [List.replicate_succ', yba, set_append_right (by simp)]; rfl
  rw [hs2] at s2; rw [e1]; refine zzhx _ _ _ _ _ ?_
  simp (disch := omega) only [z84, wpT, zdc, g1, g2, zaa, zai, q173, hdiv, zar, zab.asTup, zac, g3, wrap_i64]
  rw [if_pos (by omega)]
  simp only [zbn, yaa, yab, zaa, zai]; intro _ _ _; rw [s1]; simp only [zaa]; refine ih t1 _ _ (by omega) (ht.off hb s3) s2 (by simp; omega) ?_ hrlt ?_
  ·intro y hy
   rcases yat.1 hy with rfl | hy
   ·exact hqlt
   ·exact hql y hy
  ·rw [zcv hx]
   simp only [val]; rw [hval]; have hd1 := ybi (r * 4294967296 + x) d
   rw [yap, yan, yak]; rw [yai ((r * 4294967296 + x) / d) d]
   rw [yai 4294967296 r]; omega
theorem zy6 {l : List Nat} {v : zab} {d : Nat} {Q : zao} (hv : RSl t 1 (za2 .u32 l) v) (hl : l.length < 900000) (hlt : zax 4294967296 l) (hd : d < 4294967296) (hd0 : 0 < d)
  (hQ : ∀ t' v' q r, TLe t t' -> RSl t' 1 (za2 .u32 (zc9 q)) v' -> zax 4294967296 q -> q.length = l.length -> r < d -> val 4294967296 l = val 4294967296 q * d + r -> Q (.tup [v', .int .u32 (r : Nat)]) t') : Wc C13 F 152 [v, .int .u32 d] t Q := by
 refine w152 _ _ ?_
 simp (disch := omega) only [t152, wpT, hv.len, zaa, zai, zav, wrap_i64]
 intro b hb hbase; obtain ⟨t', g1, g2, g3, g4⟩ := zkn (C := C13) (k := .u32) zmc rfl zeq rfl rfl (by decide) (n := l.length) (by omega) hb
 rw [g1]; simp only [zaa]; exact z12 hv hl hlt hd hd0 hbase hb hQ l.length t' [] 0 (yal _) g3 (by simpa using g2) (by simp) (fun x hx => by cases hx) hd0 (by simp [val])
end Go.Proofs
namespace Go.Proofs
open Go Go.Am
variable [zcb]
theorem zzcc {l : List Nat} {y : zab} {box : Nat} {v : zab} {Q : zao} {I : Nat -> Tr zak -> Prop} (hl : l.length < 1000000)
  (hr : ∀ k t, I k t -> zau C13 200 ⟨0, t⟩ (.ptr box 0) = some v /\ RSl t 1 (za2 .u32 l) v)
  (hy : ∀ k x t, l[k]? = some x -> I (k + 1) t -> ∀ R : zao, (∀ t', I k t' -> R (.bool true) t') -> zcf (zpq y [.int .u32 (x : Nat)]) fun p => Wq C13 F zay p.1 p.2 t R)
  (hQ : ∀ t, I 0 t -> Q (.tup []) t) : ∀ (k : Nat) (t : Tr zak), k <= l.length -> I k t -> jp 175 2 [y, .ptr box 0, .int .i64 ((k : Int) - 1)] t Q := by
 intro k; induction k with
 | zero =>
  intro t _ h; refine zzhw _ _ _ ?_
  simp only [z83, wpT, zdc]; rw [if_neg (by omega)]
  exact hQ t h
 | succ k ih =>
  intro t hk h; obtain ⟨g0, hv⟩ := hr _ _ h
  obtain ⟨x, hx⟩ := getElem?_of_lt (l := l) (i := k) (by omega)
  obtain ⟨c, off, g1, g2⟩ := hv.idx zd0 hx
  have e1 : ((k + 1 : Nat) : Int) - 1 = (k : Int) := by omega
  rw [e1]; refine zzhw _ _ _ ?_
  simp (disch := omega) only [z83, wpT, zdc, g0, g1, g2, zaa, zai, wrap_i64]
  rw [if_pos (by omega)]
  refine hy k x t hx h _ fun t' ht' => ?_
  simp only [zab.asBool, zaa, Bool.not_true]; rw [if_neg (by simp)]
  exact ih t' (by omega) ht'
theorem zzkj {l : List Nat} {y : zab} {box : Nat} {v : zab} {Q : zao} {t : Tr zak} {I : Nat -> Tr zak -> Prop} (hl : l.length < 1000000)
  (hr : ∀ k t, I k t -> zau C13 200 ⟨0, t⟩ (.ptr box 0) = some v /\ RSl t 1 (za2 .u32 l) v)
  (hy : ∀ k x t, l[k]? = some x -> I (k + 1) t -> ∀ R : zao, (∀ t', I k t' -> R (.bool true) t') -> zcf (zpq y [.int .u32 (x : Nat)]) fun p => Wq C13 F zay p.1 p.2 t R)
  (hQ : ∀ t, I 0 t -> Q (.tup []) t) (h : I l.length t) : Wc C13 F 175 [y, .ptr box 0] t Q := by
 obtain ⟨g0, hv⟩ := hr _ _ h
 refine w175 _ _ ?_
 simp (disch := omega) only [t175, wpT, g0, hv.len, zav, zaa, zai, wrap_i64]
 exact zzcc hl hr hy hQ l.length t (yal _) h
end Go.Proofs
namespace Go.Am
open Go Go.RowKit
section
variable {t tf : Tr zak} {C : Ctx}
theorem zer {n : Nat} (hn : t.get n = none) (q : zak) : TLe t (t.set n q) /\ Off n t (t.set n q) :=
 ⟨fun c u hc => by rw [Tr.get_set, if_neg (by intro e; rw [e, hn] at hc; cases hc)]; exact hc, fun c hc => by rw [Tr.get_set, if_neg hc]⟩
theorem z6s {sz n : Nat} {cl : List (List zab)} {t' : Tr zak} {lo : Option Lo} (hl : ∀ (i : Nat) cs, cl[i]? = some cs -> cs.length = sz) (h : t'.get n = some (.cells (Tr.ofList cl.flatten) (zbw cl.flatten) lo)) (hlo : lo = none \/ ∃ x, lo = some x /\ x.es = sz) {k : Nat} (hk : cl.length = k) : zk4 t' sz (.slice n 0 k k) cl := by
 subst hk; exact zsg hl h hlo
theorem zyl {T el sz n : Nat} {y z : ATy} {ps : List (Nat × zab)} {cl : List (List zab)} (hT : C.tys.get T = some y) (hel : y.desc.asSlice = some el) (hz : C.tys.get el = some z) (hs : z.size = sz) (h0 : zbw z.zero = sz) (hn : n * sz < 1000000)
  (hfill : zm6 (fun i => some (i * sz, sz)) ps (zvx z.zero n) = some cl.flatten) (hcl : ∀ (i : Nat) cs, cl[i]? = some cs -> cs.length = sz) (hlen : cl.length = n) {b : Nat} (hb : t.get b = none) :
  ∃ t', za5 C T n ps ⟨b, t⟩ = some (.slice b 0 n n, ⟨b + 1, t'⟩) /\ zk4 t' sz (.slice b 0 n n) cl /\ TLe t t' /\ Off b t t' := by
 refine ⟨t.set b (.cells (Tr.ofList cl.flatten) (zbw cl.flatten) none), ?_, z6s hcl (by rw [Tr.get_set, if_pos rfl]) (.inl rfl) hlen, (zer hb _).1, (zer hb _).2⟩
 unfold za5; rw [hT, zac, hel, zac, hz, zac]; have : (Nat.blt (n * z.size) 1000000 && Nat.beq (zbw z.zero) z.size) = true := by
  rw [hs, h0, zc8.2 hn, zcy.2 rfl]; rfl
 rw [this, zam, hs, hfill]; rfl
def zcn (cd : Lo) (base : Nat) (tf t : Tr zak) (sz : Nat) (l : List D) (v : zab) : Prop :=
 (v = .nilslice /\ l = []) \/ ∃ b cl c, v = .slice b 0 l.length l.length /\ base <= b /\ tf.get b = none /\ t.get b = some (.cells c (l.length * sz) (some cd)) ∧
  (∀ (i : Nat) cs, cl[i]? = some cs -> cs.length = sz /\ ∀ (j : Nat) a, cs[j]? = some a -> c.get (i * sz + j) = some a) /\ RDs tf l cl
abbrev znp (base : Nat) (tf t : Tr zak) (sz : Nat) (l : List D) (v : zab) : Prop := zcn (.sz sz) base tf t sz l v
def zid (v : zab) (b : Nat) : Prop := ∃ o n c, v = .slice b o n c
theorem zr4 {b : Nat} : ¬ zid .nilslice b := fun ⟨_, _, _, h⟩ => by cases h
theorem zc4 {b c o n k : Nat} : zid (.slice b o n k) c ↔ c = b := ⟨fun ⟨_, _, _, h⟩ => by cases h; rfl, fun h => by subst h; exact ⟨_, _, _, rfl⟩⟩
theorem zcn.read {cd : Lo} {base sz : Nat} {l : List D} {v : zab} (hcd : cd.es = sz) (h : zcn cd base tf t sz l v) (ht : TLe tf t) : RSl t sz l v := by
 rcases h with ⟨rfl, rfl⟩ | ⟨b, cl, c, rfl, _, _, h1, h2, h3⟩
 ·exact ⟨[], .inl ⟨rfl, rfl⟩, zcr.2 rfl⟩
 ·have hlen := h3.length
  refine ⟨cl, .inr ⟨b, 0, l.length, by rw [hlen], by omega, ⟨c, _, _, h1, .inr ⟨_, rfl, hcd⟩⟩, fun i cs hi => ⟨(h2 i cs hi).1, c, _, _, h1, fun j a hj => ?_⟩⟩, RDs.mono ht _ _ h3⟩
  rw [yax]; exact (h2 i cs hi).2 j a hj
theorem zcn.len {cd : Lo} {base sz : Nat} {l : List D} {v : zab} (h : zcn cd base tf t sz l v) : zbm v = some (.int .i64 (l.length : Int)) := by
 rcases h with ⟨rfl, rfl⟩ | ⟨b, cl, c, rfl, _⟩
 ·rfl
 ·rfl
theorem zcn.none {cd : Lo} {base sz : Nat} {l : List D} {v : zab} (h : zcn cd base tf t sz l v) {b : Nat} (hb : zid v b) : tf.get b = none /\ base <= b /\ ∃ y, t.get b = some y := by
 rcases h with ⟨rfl, rfl⟩ | ⟨c, cl, x, rfl, h1, h2, h3, _⟩
 ·exact absurd hb zr4
 ·rw [zc4] at hb; subst hb; exact ⟨h2, h1, _, h3⟩
theorem znp.keep {base sz : Nat} {l : List D} {v : zab} {t' tf' : Tr zak} (h : znp base tf t sz l v) (hf : TLe tf tf') (hk : ∀ b, zid v b -> t'.get b = t.get b /\ tf'.get b = Option.none) : znp base tf' t' sz l v := by
 rcases h with ⟨rfl, rfl⟩ | ⟨b, cl, c, rfl, h0, h1, h2, h3, h4⟩
 ·exact .inl ⟨rfl, rfl⟩
 ·obtain ⟨k1, k2⟩ := hk b (zc4.2 rfl)
  exact .inr ⟨b, cl, c, rfl, h0, k2, by rw [k1]; exact h2, h3, RDs.mono hf _ _ h4⟩
theorem znk {T U el sz : Nat} {cd : Lo} (hT : z7h C T el sz) (hU : ∃ u, C.tys.get U = some u /\ Nat.beq u.desc.tag 1 = false) (hcd : ∀ z, C.tys.get el = some z -> zep el z = cd) {l m : List D} {v x : zab} {cm : List (List zab)} (hv : zcn cd C.base tf t sz l v) (hall : ∀ (i : Nat) cs, cm[i]? = some cs -> cs.length = sz) (hx : ∀ n, zjx ⟨n, t⟩ sz cm.length x = some cm.flatten /\ zo2 x = some cm.length) (hm : RDs tf m cm) (hone : ∀ a ∈ cm.flatten, zab.one a = true) (hpos : 0 < m.length) (hl : l.length + m.length < 400000) {n : Nat} (hn : t.get n = none) (hbase : C.base <= n) (ht : TLe tf t) :
  ∃ t', zci C T U v x ⟨n, t⟩ = some (.slice n 0 (l.length + m.length) (l.length + m.length), ⟨n + 1, t'⟩) /\ zcn cd C.base tf t' sz (l ++ m) (.slice n 0 (l.length + m.length) (l.length + m.length)) /\ TLe tf t' /\ (∀ c, c ≠ n -> ¬ zid v c -> t'.get c = t.get c) := by
 obtain ⟨⟨y, hy1, hy2, hy3⟩, ⟨z, hz1, hz2, hz3, hz4, hz5⟩⟩ := hT
 have hcode := hcd z hz1
 have hcm := hm.length
 obtain ⟨hf, hlen⟩ := hx n
 obtain ⟨u, hu1, hu2⟩ := hU
 have hflat := z4g hall
 have hfl : zbw cm.flatten = cm.length * sz := by rw [za1]; exact hflat
 have hfn : tf.get n = none := by
  cases hq : tf.get n with
  | none => rfl
  | some u => rw [ht _ _ hq] at hn; cases hn
 have base : zci C T U v x ⟨n, t⟩ = (match v.asSlice with
  | some s => bif Nat.ble (s.2.2.1 + cm.length) s.2.2.2 then zhz C ⟨n, t⟩ z cm.length cm.flatten s else zja C ⟨n, t⟩ el z cm.length cm.flatten s
  | none => zaj (Nat.beq v.tag 5) (zgh ⟨n, t⟩ el z cm.length cm.flatten)) := by
  unfold zci zjl; rw [hy1, zac, hu1, zac, hu2]; simp only [ybm, zam]; rw [hy2, zac, hz1, zac, hlen, zac, hz2, hf, zac]; rfl
 have ok : zm2 z l.length l.length cm.length cm.flatten = true := by
  unfold zm2; have h1 : Nat.blt (l.length + cm.length + l.length) 1000000000 = true := zc8.2 (by omega)
  have h2 : Nat.blt ((l.length + cm.length + l.length) * z.bytes) 1000000000 = true := zc8.2 (by
   have := ycc (show l.length + cm.length + l.length <= 800000 by omega) hz4
   omega)
  have h3 : Nat.blt z.bytes 1000000000 = true := zc8.2 (by omega)
  have h4 : (!Nat.beq z.size 0) = true := by
   cases hq : Nat.beq z.size 0 with
   | true => have := zcy.1 hq; omega
   | false => rfl
  have h5 : Nat.beq (zbw cm.flatten) (cm.length * z.size) = true := by rw [hfl, hz2]; exact zcy.2 rfl
  have h6 : Nat.beq (zbw z.zero) z.size = true := by rw [hz3, hz2]; exact zcy.2 rfl
  rw [h1, h2, h3, h4, h5, h6]; rfl
 rcases hv with ⟨rfl, rfl⟩ | ⟨b, cl, c, rfl, hb0, hb1, hb2, hb3, hb4⟩
 ·refine ⟨t.set n (.cells (Tr.ofList cm.flatten) (zbw cm.flatten) (some cd)), ?_, .inr ⟨n, cm, Tr.ofList cm.flatten, by simp, hbase, hfn, ?_, fun i cs hi => ⟨hall i cs hi, fun j a hj => ?_⟩, by simpa using hm⟩, ?_, fun c hc _ => (zer hn _).2 c hc⟩
  ·rw [base]
   simp only [zab.asSlice]; show zaj true (zgh ⟨n, t⟩ el z cm.length cm.flatten) = _
   rw [zam]; unfold zgh; have : Nat.beq cm.length 0 = false := by
    cases hq : Nat.beq cm.length 0 with
    | true => have := zcy.1 hq; omega
    | false => rfl
   have ok : zm2 z 0 0 cm.length cm.flatten = true := ok
   rw [this, cond_false, ok, zam, hcm, hcode]; simp only [yay, yax]; rfl
  ·rw [Tr.get_set, if_pos rfl, hfl, hcm]; simp
  ·rw [Tr.get_ofList]; exact zku hall i j cs a hi hj
  ·exact ht.trans (zer hn _).1
 ·have hcl := hb4.length
  have hbn : b ≠ n := by intro e; rw [e, hn] at hb2; cases hb2
  refine ⟨(t.del b).set n (.cells (c.setMany cm.flatten (l.length * z.size)) ((l.length + cm.length) * z.size) (some cd)), ?_, .inr ⟨n, cl ++ cm, c.setMany cm.flatten (l.length * z.size), by simp, hbase, hfn, ?_, fun i cs hi => ?_, ?_⟩, fun k u hk => ?_, fun k hk1 hk2 => ?_⟩
  ·rw [base]
   simp only [zab.asSlice]; have : Nat.ble (l.length + cm.length) l.length = false := by
    cases hq : Nat.ble (l.length + cm.length) l.length with
    | true => have := zh2.1 hq; omega
    | false => rfl
   rw [this, cond_false]; unfold zja; simp only []; rw [show ∀ x, (!(Nat.beq 0 1 && x)) = true from fun _ => rfl, zam, ok, zam]
   unfold zaq; rw [hb2, zac]; simp only [zak.asCells, zac]; unfold ziw; simp only []; have g1 : loEq cd (zep el z) = true := by rw [hcode]; exact zzak.2 rfl
   have g2 : Nat.ble (l.length * z.size) (l.length * sz) = true := zh2.2 (by rw [hz2]; exact yal _)
   have g3 : Nat.ble (l.length * sz) ((l.length + cm.length) * z.size) = true := zh2.2 (by rw [hz2]; exact yaj _ (by omega))
   have g4 : zd9 zab.one cm.flatten = true := by rw [zc3]; exact ybc.2 hone
   have g5 : (!Nat.blt b C.base) = true := by
    cases hq : Nat.blt b C.base with
    | true => have := zc8.1 hq; omega
    | false => rfl
   rw [g1, g2, g3, g4, g5]; simp only [hz2, hcm]; rfl
  ·rw [Tr.get_set, if_pos rfl, hz2, hcm, yah]
  ·rw [List.getElem?_append] at hi
   split at hi
   ·rename_i hlt
    obtain ⟨k1, k2⟩ := hb3 i cs hi
    refine ⟨k1, fun j a hj => ?_⟩
    have hjl : j < sz := by rw [<- k1]; exact (yad.1 hj).1
    have : i * sz + j < l.length * sz := by
     have := yaj sz (show i + 1 <= l.length by omega)
     rw [yap] at this; omega
    rw [Tr.get_setMany, hz2, if_neg (by omega)]
    exact k2 j a hj
   ·rename_i hge
    have k1 := hall _ cs hi
    refine ⟨k1, fun j a hj => ?_⟩
    have hf1 := zku hall _ j cs a hi hj
    have hlt := (yad.1 hf1).1
    have e : i * sz = l.length * sz + (i - cl.length) * sz := by rw [<- yap]; congr 1; omega
    rw [Tr.get_setMany, hz2, if_pos (by omega), show i * sz + j - l.length * sz = (i - cl.length) * sz + j by omega]
    exact hf1
  ·have app : ∀ {l m : List D} {cl cm : List (List zab)}, RDs tf l cl -> RDs tf m cm -> RDs tf (l ++ m) (cl ++ cm) := by
    intro l; induction l with
    | nil => intro m cl cm h k; rw [zcr] at h; subst h; exact k
    | cons d l ih =>
     intro m cl cm h k; rw [zba] at h; obtain ⟨c, r, rfl, h1, h2⟩ := h
     exact zba.2 ⟨c, r ++ cm, rfl, h1, ih h2 k⟩
   exact app hb4 hm
  ·have h1 : k ≠ b := by intro e; rw [e, hb1] at hk; cases hk
   have h2 : k ≠ n := by intro e; rw [e, hfn] at hk; cases hk
   rw [Tr.get_set, if_neg h2, Tr.get_del, if_neg h1]; exact ht _ _ hk
  ·rw [Tr.get_set, if_neg hk1, Tr.get_del, if_neg (fun e => hk2 (zc4.2 e))]
theorem znl {T el sz : Nat} {cd : Lo} (hT : z7h C T el sz) (hcd : ∀ z, C.tys.get el = some z -> zep el z = cd) {l m : List D} {v x : zab} {cm : List (List zab)} (hv : zcn cd C.base tf t sz l v) (hx : zk4 t sz x cm) (hm : RDs tf m cm) (hone : ∀ a ∈ cm.flatten, zab.one a = true) (hpos : 0 < m.length) (hl : l.length + m.length < 400000) {n : Nat} (hn : t.get n = none) (hbase : C.base <= n) (ht : TLe tf t) :
  ∃ t', zci C T T v x ⟨n, t⟩ = some (.slice n 0 (l.length + m.length) (l.length + m.length), ⟨n + 1, t'⟩) /\ zcn cd C.base tf t' sz (l ++ m) (.slice n 0 (l.length + m.length) (l.length + m.length)) /\ TLe tf t' /\ (∀ c, c ≠ n -> ¬ zid v c -> t'.get c = t.get c) := by
 obtain ⟨y, hy1, hy2, hy3⟩ := hT.ty
 exact znk hT ⟨y, hy1, hy3⟩ hcd hv hx.len (fun n => hx.first (n := n)) hm hone hpos hl hn hbase ht
theorem zzm {T el sz : Nat} (hT : ElTy C T el sz) {l m : List D} {v x : zab} {cm : List (List zab)} (hv : znp C.base tf t sz l v) (hx : zk4 t sz x cm) (hm : RDs tf m cm) (hone : ∀ a ∈ cm.flatten, zab.one a = true) (hpos : 0 < m.length) (hl : l.length + m.length < 400000) {n : Nat} (hn : t.get n = none) (hbase : C.base <= n) (ht : TLe tf t) :
  ∃ t', zci C T T v x ⟨n, t⟩ = some (.slice n 0 (l.length + m.length) (l.length + m.length), ⟨n + 1, t'⟩) /\ znp C.base tf t' sz (l ++ m) (.slice n 0 (l.length + m.length) (l.length + m.length)) /\ TLe tf t' /\ (∀ c, c ≠ n -> ¬ zid v c -> t'.get c = t.get c) := by
 refine znl ⟨hT.ty, hT.el⟩ (fun z h => ?_) hv hx hm hone hpos hl hn hbase ht
 obtain ⟨y, h1, h2, _⟩ := hT.el
 rw [hT.nb.code h, show z = y from ybj (h.symm.trans h1), h2]
theorem zcn.freeze {cd : Lo} {base sz : Nat} {l : List D} {v : zab} (hcd : cd.es = sz) (h : zcn cd base tf t sz l v) (ht : TLe tf t) : ∃ tf', TLe tf tf' /\ TLe tf' t /\ RSl tf' sz l v /\ ∀ b, ¬ zid v b -> tf'.get b = tf.get b := by
 rcases h with ⟨rfl, rfl⟩ | ⟨b, cl, c, rfl, h0, h1, h2, h3, h4⟩
 ·exact ⟨tf, TLe.refl _, ht, ⟨[], .inl ⟨rfl, rfl⟩, zcr.2 rfl⟩, fun _ _ => rfl⟩
 ·have hlen := h4.length
  refine ⟨tf.set b (.cells c (l.length * sz) (some cd)), (zer h1 _).1, fun k u hk => ?_, ⟨cl, .inr ⟨b, 0, l.length, by rw [hlen], by omega, ⟨c, _, _, by rw [Tr.get_set, if_pos rfl], .inr ⟨_, rfl, hcd⟩⟩, fun i cs hi => ⟨(h3 i cs hi).1, c, _, _, (by rw [Tr.get_set, if_pos rfl]), fun j a hj => ?_⟩⟩, RDs.mono (zer h1 _).1 _ _ h4⟩, fun k hk => by rw [Tr.get_set, if_neg (fun e => hk (zc4.2 e))]⟩
  ·rw [Tr.get_set] at hk
   split at hk
   ·rename_i e; subst e; cases hk; exact h2
   ·exact ht _ _ hk
  ·rw [yax]; exact (h3 i cs hi).2 j a hj
theorem znp.read {base sz : Nat} {l : List D} {v : zab} (h : znp base tf t sz l v) (ht : TLe tf t) : RSl t sz l v := zcn.read rfl h ht
theorem znp.freeze {base sz : Nat} {l : List D} {v : zab} (h : znp base tf t sz l v) (ht : TLe tf t) : ∃ tf', TLe tf tf' /\ TLe tf' t /\ RSl tf' sz l v /\ ∀ b, ¬ zid v b -> tf'.get b = tf.get b := zcn.freeze rfl h ht
end
end Go.Am
namespace Go.Am
open Go Go.RowKit
def Cel (t : Tr zak) (b : Nat) (lo : Option Lo) (cs : List zab) : Prop := ∃ c, t.get b = some (.cells c cs.length lo) /\ ∀ (j : Nat) a, cs[j]? = some a -> c.get j = some a
def zv4 (cs : List zab) (j : Nat) (l : List zab) : List zab := cs.take j ++ (l ++ cs.drop (j + l.length))
theorem z90 {cs l : List zab} {j : Nat} (h : j + l.length <= cs.length) : (zv4 cs j l).length = cs.length := by
 unfold zv4; simp; omega
theorem zyc {cs l : List zab} {j : Nat} (h : j + l.length <= cs.length) (k : Nat) : (zv4 cs j l)[k]? = if j <= k /\ k < j + l.length then l[k - j]? else cs[k]? := by
 have ht : (cs.take j).length = j := by simp; omega
 unfold zv4; rw [List.getElem?_append, ht]; split
 ·rename_i h1
  rw [if_neg (by omega), ycg, if_pos h1]
 ·rename_i h1
  rw [List.getElem?_append]; split
  ·rw [if_pos (by omega)]
  ·rw [if_neg (by omega), ycf]; congr 1; omega
section
variable {t tf : Tr zak} {C : Ctx} {b : Nat} {lo : Option Lo} {cs : List zab}
theorem Cel.at (h : Cel t b lo cs) : At t b 0 cs := by
 obtain ⟨c, h1, h2⟩ := h
 exact ⟨c, _, _, h1, fun j a hj => by rw [yax]; exact h2 j a hj⟩
theorem Cel.off (h : Cel t b lo cs) {t' : Tr zak} (k : t'.get b = t.get b) : Cel t' b lo cs := by
 obtain ⟨c, h1, h2⟩ := h
 exact ⟨c, by rw [k]; exact h1, h2⟩
theorem Cel.load1 (h : Cel t b lo cs) {j : Nat} {a : zab} {ty : Nat} {y : ATy} (hy : C.tys.get ty = some y) (ha : y.desc.isAgg = false) (hj : cs[j]? = some a) : zau C ty ⟨0, t⟩ (.ptr b j) = some a := by
 have := h.at.load1 hy ha hj
 rw [yax] at this; exact this
theorem Cel.store (h : Cel t b lo cs) (hb : C.base <= b) {j T : Nat} {y : ATy} {v : zab} (hT : C.tys.get T = some y) (hl : v.cells.length = y.size) (hj : j + v.cells.length <= cs.length) (hone : zd9 zab.one v.cells = true) :
  ∃ t', (∀ n, zbl C T (.ptr b j) v ⟨n, t⟩ = some (zbh, ⟨n, t'⟩)) /\ Cel t' b lo (zv4 cs j v.cells) /\ Off b t t' := by
 obtain ⟨c, h1, h2⟩ := h
 refine ⟨t.set b (.cells (c.setMany v.cells j) cs.length lo), fun n => ?_, ⟨c.setMany v.cells j, ?_, fun k a hk => ?_⟩, fun d hd => by rw [Tr.get_set, if_neg hd]⟩
 ·unfold zbl
  rw [hT, zac]; simp only [zab.asPtr, zac]; have e1 : Nat.beq (zbw v.cells) y.size = true := by rw [za1, hl]; exact zcy.2 rfl
  rw [e1, zam]; unfold zem zaq; have e2 : (!Nat.blt b C.base) = true := by
   cases hq : Nat.blt b C.base with
   | true => have := zc8.1 hq; omega
   | false => rfl
  rw [e2, zam, h1, zac]; simp only [zak.asCells, zac]; have e3 : Nat.ble (j + zbw v.cells) cs.length = true := by rw [za1]; exact zh2.2 hj
  rw [e3, hone]; rfl
 ·rw [Tr.get_set, if_pos rfl, z90 hj]
 ·rw [zyc hj] at hk
  rw [Tr.get_setMany]; split
  ·rename_i e; rw [if_pos e] at hk; exact hk
  ·rename_i e; rw [if_neg e] at hk; exact h2 k a hk
theorem Cel.store1 (h : Cel t b lo cs) (hb : C.base <= b) {j T : Nat} {y : ATy} {v : zab} (hT : C.tys.get T = some y) (hs : y.size = 1) (hv : v.cells = [v]) (hone : zab.one v = true) (hj : j < cs.length) :
  ∃ t', (∀ n, zbl C T (.ptr b j) v ⟨n, t⟩ = some (zbh, ⟨n, t'⟩)) /\ Cel t' b lo (cs.set j v) /\ Off b t t' := by
 obtain ⟨t', h1, h2, h3⟩ := h.store hb hT (v := v) (j := j) (by rw [hv, hs]; rfl) (by rw [hv]; exact hj) (by rw [hv]; show (bif zab.one v then true else false) = true; rw [hone]; rfl)
 refine ⟨t', h1, ?_, h3⟩
 have e : zv4 cs j v.cells = cs.set j v := by
  rw [hv]; apply List.ext_getElem?
  intro k; rw [zyc (by exact hj), ybx]
  by_cases e : j = k
  ·subst e; rw [if_pos (by simp), if_pos rfl, if_pos hj]; simp
  ·rw [if_neg (by simp; omega), if_neg e]
 rw [e] at h2; exact h2
theorem zly {b : Nat} (hb : t.get b = none) (cs : List zab) (lo : Option Lo) : ∃ t', za0 ⟨b, t⟩ cs lo = ⟨b + 1, t'⟩ /\ Cel t' b lo cs /\ TLe t t' /\ Off b t t' :=
 ⟨t.set b (.cells (Tr.ofList cs) (zbw cs) lo), rfl, ⟨Tr.ofList cs, by rw [Tr.get_set, if_pos rfl, za1], fun j a hj => by rw [Tr.get_ofList]; exact hj⟩, (zer hb _).1, (zer hb _).2⟩
theorem zi1 {b T : Nat} {y : ATy} (hT : C.tys.get T = some y) (hb : t.get b = none) : ∃ t', zjq C T ⟨b, t⟩ = some (.ptr b 0, ⟨b + 1, t'⟩) /\ Cel t' b none y.zero /\ TLe t t' /\ Off b t t' := by
 obtain ⟨t', h1, h2, h3, h4⟩ := zly hb y.zero none
 refine ⟨t', ?_, h2, h3, h4⟩
 unfold zjq; rw [hT, zac, <- h1]
end
end Go.Am
