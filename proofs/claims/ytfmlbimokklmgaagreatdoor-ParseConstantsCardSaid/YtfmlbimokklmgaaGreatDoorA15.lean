/- Facts on types. (Printed by a tool.) -/
import Derived.Test.YtfmlbimokklmgaaGreatDoorA14
set_option linter.all false
noncomputable section
set_option maxRecDepth 100000
namespace Go.Proofs
open Go Go.Am
variable [zb1]
theorem ty3 : C30.tys.get 3 = some ⟨(.int .i64), 1, 8, [.int .i64 0], true⟩ := by kernel_rfl
theorem ty5 : C30.tys.get 5 = some ⟨(.int .u8), 1, 1, [.int .u8 0], true⟩ := by kernel_rfl
theorem ty9 : C30.tys.get 9 = some ⟨.string, 1, 16, [.str []], true⟩ := by kernel_rfl
theorem z85 : C30.tys.get 29 = some ⟨(.struct [(0, 3, 1), (1, 3, 1)]), 2, 16, [.int .i64 0, .int .i64 0], true⟩ := by kernel_rfl
theorem zzfs : C30.tys.get 30 = some ⟨(.int .i64), 1, 8, [.int .i64 0], true⟩ := by kernel_rfl
theorem ty41 : C30.tys.get 41 = some ⟨(.slice 79), 1, 24, [.nilslice], true⟩ := by kernel_rfl
theorem ty43 : C30.tys.get 43 = some ⟨(.struct [(0, 4, 1), (1, 41, 1)]), 2, 32, [.bool false, .nilslice], true⟩ := by kernel_rfl
theorem ty47 : C30.tys.get 47 = some ⟨(.struct [(0, 5, 1), (1, 45, 4), (5, 3, 1)]), 6, 80, [.int .u8 0, .bool false, .nilslice, .bool false, .nilslice, .int .i64 0], true⟩ := by kernel_rfl
theorem zl8 : C30.tys.get 56 = some ⟨(.int .u32), 1, 4, [.int .u32 0], true⟩ := by kernel_rfl
theorem z6b : C30.tys.get 66 = some ⟨(.slice 75), 1, 24, [.nilslice], true⟩ := by kernel_rfl
theorem ty75 : C30.tys.get 75 = some ⟨(.struct [(0, 5, 1), (1, 9, 1), (2, 29, 2)]), 4, 40, [.int .u8 0, .str [], .int .i64 0, .int .i64 0], true⟩ := by kernel_rfl
theorem zzi8 : C30.tys.get 79 = some ⟨(.int .u16), 1, 2, [.int .u16 0], true⟩ := by kernel_rfl
theorem ty93 : C30.tys.get 93 = some ⟨(.slice 9), 1, 24, [.nilslice], true⟩ := by kernel_rfl
theorem ty94 : C30.tys.get 94 = some ⟨(.slice 3), 1, 24, [.nilslice], true⟩ := by kernel_rfl
theorem ty95 : C30.tys.get 95 = some ⟨(.slice 5), 1, 24, [.nilslice], true⟩ := by kernel_rfl
theorem ty145 : C30.tys.get 145 = some ⟨(.struct [(0, 29, 2), (2, 9, 1), (3, 3, 1)]), 4, 40, [.int .i64 0, .int .i64 0, .str [], .int .i64 0], true⟩ := by kernel_rfl
theorem zjh : C30.tys.get 189 = some ⟨(.slice 56), 1, 24, [.nilslice], true⟩ := by kernel_rfl
theorem ty206 : C30.tys.get 206 = some ⟨(.ptr 189), 1, 8, [.nilptr], true⟩ := by kernel_rfl
theorem zmv : C30.tys.get 207 = some ⟨(.int .u64), 1, 8, [.int .u64 0], true⟩ := by kernel_rfl
theorem ty219 : C30.tys.get 219 = some ⟨(.arr 12 3), 12, 96, [.int .i64 0, .int .i64 0, .int .i64 0, .int .i64 0, .int .i64 0, .int .i64 0, .int .i64 0, .int .i64 0, .int .i64 0, .int .i64 0, .int .i64 0, .int .i64 0], true⟩ := by kernel_rfl
theorem zzlm : C30.tys.get 229 = some ⟨(.slice 43), 1, 24, [.nilslice], true⟩ := by kernel_rfl
theorem zzjp : zvq C30 41 79 1 false := ⟨⟨_, ty41, rfl⟩, ⟨_, zzi8, rfl, rfl⟩⟩
theorem sl66 : zvq C30 66 75 4 true := ⟨⟨_, z6b, rfl⟩, ⟨_, ty75, rfl, rfl⟩⟩
theorem sl93 : zvq C30 93 9 1 false := ⟨⟨_, ty93, rfl⟩, ⟨_, ty9, rfl, rfl⟩⟩
theorem sl94 : zvq C30 94 3 1 false := ⟨⟨_, ty94, rfl⟩, ⟨_, ty3, rfl, rfl⟩⟩
theorem zec : zvq C30 189 56 1 false := ⟨⟨_, zjh, rfl⟩, ⟨_, zl8, rfl, rfl⟩⟩
theorem sl229 : zvq C30 229 43 2 true := ⟨⟨_, zzlm, rfl⟩, ⟨_, ty43, rfl, rfl⟩⟩
end Go.Proofs
namespace Go.Am
open Go Go.RowKit
def zf7 (l : List Nat) : List D := l.map fun (n : Nat) => D.int .u16 (n : Int)
theorem zgr (l : List Nat) : (zf7 l).length = l.length := by simp [zf7]
structure zej where
 neg : Bool
 limbs : List Nat
def zej.d (w : zej) : D := .st [.bool w.neg, .sl 1 (zf7 w.limbs)]
structure zf9 where
 n : zej
 d : zej
def zf9.dd (f : zf9) : D := .st [f.n.d, f.d.d]
structure ztn where
 kind : Nat
 f : zf9
 i : Int
def ztn.d (v : ztn) : D := .st [.int .u8 v.kind, v.f.dd, .int .i64 v.i]
inductive zg5 where
 | mk (op : Nat) (name : List Nat) (v : ztn) (args : List zg5)
def zg5.op : zg5 -> Nat | .mk o _ _ _ => o
def zg5.v : zg5 -> ztn | .mk _ _ v _ => v
mutual
def zg5.d : zg5 -> D
 | .mk op name v args => .st [.int .u8 op, .str name, v.d, .sl 9 (zg5.ds args)]
def zg5.ds : List zg5 -> List D
 | [] => []
 | x :: l => x.d :: zg5.ds l
end
structure XRow where
 a : Int
 b : Int
 known : Int
 f : zf9
def XRow.d (r : XRow) : D := .st [.int .i64 r.a, .int .i64 r.b, .int .i64 r.known, r.f.dd]
structure zvo where
 name : List Nat
 two : Bool
 rows : List XRow
def zvo.d (x : zvo) : D := .st [.str x.name, .bool x.two, .sl 7 (x.rows.map XRow.d)]
structure XDef where
 name : List Nat
 kind : Nat
 fact : Bool
def XDef.d (x : XDef) : D := .st [.str x.name, .int .u8 x.kind, .bool x.fact]
structure zpp where
 name : List Nat
 label : List Nat
 from_ : Int
 to : Int
 known : Int
 off : Bool
 when_ : zg5
 then_ : zg5
def zpp.d (x : zpp) : D := .st [.str x.name, .str x.label, .int .i64 x.from_, .int .i64 x.to, .int .i64 x.known, .bool x.off, x.when_.d, x.then_.d]
structure zziz where
 name : List Nat
 defs : List XDef
 tables : List zvo
 clauses : List zpp
def zziz.d (x : zziz) : D := .st [.str x.name, .sl 3 (x.defs.map XDef.d), .sl 3 (x.tables.map zvo.d), .sl 24 (x.clauses.map zpp.d)]
section
variable {t : Tr zav} {cs : List zab}
theorem z4j {w : zej} (h : RD t w.d cs) : ∃ v, cs = [.bool w.neg, v] /\ RSl t 1 (zf7 w.limbs) v := by
 grind [zej.d, zql, zcg, zdl, z79, zx5]
theorem rd_frac {f : zf9} (h : RD t f.dd cs) : ∃ u v, cs = [.bool f.n.neg, u, .bool f.d.neg, v] /\ RSl t 1 (zf7 f.n.limbs) u /\ RSl t 1 (zf7 f.d.limbs) v := by
 grind [zf9.dd, zql, zcg, zdl, z4j]
theorem znm {v : ztn} (h : RD t v.d cs) : ∃ a b, cs = [.int .u8 v.kind, .bool v.f.n.neg, a, .bool v.f.d.neg, b, .int .i64 v.i] /\ RSl t 1 (zf7 v.f.n.limbs) a /\ RSl t 1 (zf7 v.f.d.limbs) b := by
 unfold ztn.d at h; simp only [zql, zcg, zdl, zkv] at h; obtain ⟨cl, rfl, c, r, rfl, rfl, c', r', rfl, h2, c'', r'', rfl, rfl, rfl⟩ := h
 obtain ⟨a, b, rfl, h3, h4⟩ := rd_frac h2
 exact ⟨a, b, rfl, h3, h4⟩
end
theorem zej.zs (x : zej) : x.d.zs = [.bool false, .nilslice] := rfl
theorem zf9.zs (x : zf9) : x.dd.zs = [.bool false, .nilslice, .bool false, .nilslice] := rfl
theorem ztn.zs (x : ztn) : x.d.zs = [.int .u8 0, .bool false, .nilslice, .bool false, .nilslice, .int .i64 0] := rfl
def zt5 : Nat := 1125899906842624
def zf9.ok (f : zf9) : Prop := f.n.limbs.length < zt5 /\ f.d.limbs.length < zt5
end Go.Am
namespace Go.Am
open Go Go.RowKit
theorem zcz {a b : Int} : (iLt a b = true) ↔ a < b := zxa a b
theorem zew {a b : Int} : (iLe a b = true) ↔ a <= b := zzc0 a b
theorem zzv (l : List Nat) : (Int.ofNat (zbf l)) = (l.length : Int) := by rw [za1]; rfl
theorem zzlj (cs : List zab) : zt9 true cs = .agg cs := rfl
end Go.Am
namespace Go.Am
open Go Go.RowKit
def zbc (k : IntKind) (l : List Nat) : List D := l.map fun (n : Nat) => D.int k (n : Int)
theorem zbl {k : IntKind} (l : List Nat) : (zbc k l).length = l.length := by simp [zbc]
theorem z0j {k : IntKind} {l : List Nat} {i x : Nat} (h : l[i]? = some x) : (zbc k l)[i]? = some (.int k (x : Int)) := by simp [zbc, h]
theorem zvf {k : IntKind} {l : List Nat} {n : Nat} : (zbc k l).take n = zbc k (l.take n) := by simp [zbc]
def Own (t : Tr zav) (b : Nat) (k : IntKind) (l : List Nat) : Prop := ∃ c, t.get b = some (.cells c l.length none) /\ ∀ (j : Nat) x, l[j]? = some x -> c.get j = some (.int k (x : Int))
def Off (b : Nat) (t t' : Tr zav) : Prop := ∀ c, c ≠ b -> t'.get c = t.get c
theorem Off.refl (b : Nat) (t : Tr zav) : Off b t t := fun _ _ => rfl
theorem Off.trans {b : Nat} {x y z : Tr zav} (h : Off b x y) (k : Off b y z) : Off b x z := fun c hc => (k c hc).trans (h c hc)
section
variable {t t' t0 : Tr zav} {C : Ctx} {b : Nat} {k : IntKind} {l : List Nat}
theorem Own.off (h : Own t b k l) {c : Nat} (hc : b ≠ c) (ho : Off c t t') : Own t' b k l := by
 obtain ⟨x, h1, h2⟩ := h; exact ⟨x, by rw [ho b hc]; exact h1, h2⟩
theorem Own.tle (h : Own t b k l) (ho : TLe t t') : Own t' b k l := by
 obtain ⟨x, h1, h2⟩ := h; exact ⟨x, ho _ _ h1, h2⟩
theorem TLe.off (h : TLe t0 t) (hb : t0.get b = none) (ho : Off b t t') : TLe t0 t' := by
 intro c y hc; rw [ho c (by grind)]
 exact h c y hc
theorem Own.slice (h : Own t b k l) {off n cap : Nat} (hn : off + n <= l.length) (hc : n <= cap) : RSl t 1 (zbc k ((l.drop off).take n)) (.slice b off n cap) := by
 obtain ⟨c, h1, h2⟩ := h
 refine ⟨((l.drop off).take n).map fun (x : Nat) => [.int k (x : Int)], .inr ⟨b, off, cap, ?_, ?_, ⟨c, _, none, h1, .inl rfl⟩, fun i cs hi => ?_⟩, ?_⟩
 ·grind
 ·grind
 ·simp only [ybu, yar] at hi
  obtain ⟨x, hx, rfl⟩ := hi
  refine ⟨rfl, c, _, none, h1, fun j a hj => ?_⟩
  grind
 ·refine RDs.mk (by simp [zbc]) fun i d cs hd hc => ?_
  simp only [zbc, ybu, yar] at hd hc; obtain ⟨x, hx, rfl⟩ := hd
  simp_all
theorem Own.all (h : Own t b k l) {cap : Nat} (hc : l.length <= cap) : RSl t 1 (zbc k l) (.slice b 0 l.length cap) := by
 have := h.slice (off := 0) (n := l.length) (by omega) hc
 simp_all
theorem zc4 {T el sz : Nat} {agg : Bool} (h : zvq C T el sz agg) {off n cap i : Nat} (hi : i < n) : zai C T (.slice b off n cap) (.int .i64 (i : Int)) = some (.ptr b (off + i * sz)) := by
 obtain ⟨⟨y, hy1, hy2⟩, ⟨z, hz1, hz2, hz3⟩⟩ := h
 unfold zai; rw [hy1, zad]; have : (zab.int .i64 (i : Int)).asNat = some i := rfl
 rw [this, zad]; simp only [zab.asSlice]; rw [hy2, zad, hz1, zad, zdk.2 hi, hz2]; rfl
theorem Own.load (h : Own t b k l) {j x : Nat} (hj : l[j]? = some x) {ty : Nat} {y : ATy} (hy : C.tys.get ty = some y) (ha : y.desc.isAgg = false) : zao C ty ⟨0, t⟩ (.ptr b j) = some (.int k (x : Int)) := by
 obtain ⟨c, h1, h2⟩ := h
 simp_all [zao, zab.asPtr, zax, zav.asCells, znx]
theorem Own.store (h : Own t b k l) (hb : C.base <= b) {j : Nat} (hj : j < l.length) (x : Nat) {ty : Nat} {y : ATy} (hy : C.tys.get ty = some y) (hs : y.size = 1) :
  ∃ t', (∀ n, za0 C ty (.ptr b j) (.int k (x : Int)) ⟨n, t⟩ = some (zbj, ⟨n, t'⟩)) /\ Own t' b k (l.set j x) /\ Off b t t' := by
 obtain ⟨c, h1, h2⟩ := h
 refine ⟨t.set b (.cells (c.setMany [.int k (x : Int)] j) l.length none), fun n => ?_, ⟨c.setMany [.int k (x : Int)] j, ?_, fun i y hi => ?_⟩, fun d hd => ?_⟩
 ·unfold za0
  rw [hy, zad]; simp only [zab.asPtr, zad, zab.cells, zab.asAgg]; rw [hs]; have e1 : Nat.beq (zbf [zab.int k (x : Int)]) 1 = true := rfl
  rw [e1, zar]; unfold zdw zax; have e2 : (!Nat.blt b C.base) = true := by
   grind [zdk]
  rw [e2, zar, h1, zad]; simp only [zav.asCells, zad]; have e3 : Nat.ble (j + zbf [zab.int k (x : Int)]) l.length = true := zg3.2 hj
  have e4 : zfh zab.one [zab.int k (x : Int)] = true := rfl
  rw [e3, e4]; rfl
 all_goals grind [Tr.get_set, Tr.get_setMany]
theorem zkb {T el : Nat} {y z : ATy} (hT : C.tys.get T = some y) (hel : y.desc.asSlice = some el) (hz : C.tys.get el = some z) (hzero : z.zero = [.int k 0]) (hs : z.size = 1) (hby : z.bytes <= 8) {n : Nat} (hn : n < 1000000) (hb : t.get b = none) :
  ∃ t', zco C T (.int .i64 (n : Int)) (.int .i64 (n : Int)) ⟨b, t⟩ = some (.slice b 0 n n, ⟨b + 1, t'⟩) /\ Own t' b k (List.replicate n 0) /\ TLe t t' /\ Off b t t' := by
 have hrep : ∀ n, zqg [zab.int k 0] n = List.replicate n (.int k 0) := by
  intro n; induction n with
  | zero => rfl
  | succ n ih => grind [zqg, zca]
 refine ⟨t.set b (.cells (Tr.ofList (zqg z.zero n)) (zbf (zqg z.zero n)) none), ?_, ⟨Tr.ofList (zqg z.zero n), ?_, fun j x hj => ?_⟩, fun c y' hc => ?_, fun c hc => ?_⟩
 ·unfold zco
  rw [hT, zad, hel, zad, hz, zad]; have e1 : (zab.int .i64 (n : Int)).asNat = some n := rfl
  rw [e1, zad, zad]; have e2 : (Nat.ble n n && Nat.blt n 1000000 && Nat.blt (n * z.bytes) 1000000000 && Nat.beq (zbf z.zero) z.size) = true := by
   rw [hzero, hs, show Nat.ble n n = true from zg3.2 (ybk n), zdk.2 hn]
   have : n * z.bytes < 1000000000 := by
    have := ydb (Nat.le_of_lt hn) hby
    omega
   rw [zdk.2 this]; rfl
  rw [e2, zar]; rfl
 all_goals grind [Tr.get_set, za1, Tr.get_ofList]
end
end Go.Am
namespace Go.Am
def val (B : Nat) : List Nat -> Nat
 | [] => 0
 | a :: l => a + B * val B l
def za2 (B : Nat) (l : List Nat) : Prop := ∀ x ∈ l, x < B
def norm (l : List Nat) : Prop := ∀ h : l ≠ [], l.getLast h ≠ 0
theorem zjg (B : Nat) : ∀ (l m : List Nat), val B (l ++ m) = val B l + B ^ l.length * val B m
 | [], m => by simp [val]
 | a :: l, m => by
  simp only [List.cons_append, val, zjg B l m, ybn, yag]; grind
theorem zg7 {B : Nat} (hB : 0 < B) : ∀ {l : List Nat}, za2 B l -> val B l < B ^ l.length
 | [], _ => by simp [val]
 | a :: l, h => by
  have h1 := h a (yby)
  have h2 := zg7 hB (l := l) fun x hx => h x (ybr _ hx)
  simp only [val, ybn, yag]; have h3 : B * (val B l + 1) <= B * B ^ l.length := ybv B h2
  grind
theorem zd5 (B : Nat) (l : List Nat) (n : Nat) : val B l = val B (l.take n) + B ^ (l.take n).length * val B (l.drop n) := by
 rw [<- zjg, List.take_append_drop]
theorem zfm {B : Nat} {l : List Nat} (h : za2 B l) (n : Nat) : za2 B (l.take n) := fun x hx => h x (List.mem_of_mem_take hx)
theorem zpn {B : Nat} {l : List Nat} (h : za2 B l) (n : Nat) : za2 B (l.drop n) := fun x hx => h x (List.mem_of_mem_drop hx)
theorem zzey {B : Nat} {l m : List Nat} (h : za2 B l) (k : za2 B m) : za2 B (l ++ m) := fun x hx => (yaf.1 hx).elim (h x) (k x)
def zcu : List Nat -> List Nat
 | [] => []
 | a :: l => if zcu l = [] /\ a = 0 then [] else a :: zcu l
theorem zet (B : Nat) : ∀ l : List Nat, val B (zcu l) = val B l
 | [] => rfl
 | a :: l => by
  unfold zcu; have ih := zet B l
  grind [val]
theorem zdy : ∀ l : List Nat, norm (zcu l)
 | [] => fun h => (h rfl).elim
 | a :: l => by
  have ih := zdy l
  unfold zcu; split
  ·simp_all
  ·rename_i h
   intro hne; by_cases hs : zcu l = []
   ·simp_all
   ·rw [List.getLast_cons hs]; exact ih hs
theorem zcx {B : Nat} : ∀ {l : List Nat}, za2 B l -> za2 B (zcu l)
 | [], h => h
 | a :: l, h => by
  have ih := zcx (l := l) fun x hx => h x (ybr _ hx)
  unfold zcu; split
  ·simp_all
  ·exact fun x hx => (ybs.1 hx).elim (fun e => e ▸ h a yby) (ih x)
theorem zk4 : ∀ l : List Nat, (zcu l).length <= l.length
 | [] => ybk _
 | a :: l => by unfold zcu; have := zk4 l; split <;> simp <;> omega
theorem zo0 : ∀ l : List Nat, zcu (l ++ [0]) = zcu l
 | [] => by simp [zcu]
 | a :: l => by
  show (if zcu (l ++ [0]) = [] /\ a = 0 then [] else a :: zcu (l ++ [0])) = _
  rw [zo0 l]; rfl
theorem zji : ∀ {l : List Nat}, norm l -> zcu l = l
 | [], _ => rfl
 | a :: l, h => by
  have hl : norm l := by
   intro hne; have := h (by simp)
   grind
  unfold zcu; rw [zji hl]; split
  ·rename_i e
   have := h (by simp)
   simp_all
  ·rfl
theorem z2i {B : Nat} (hB : 0 < B) {l : List Nat} (h : norm l) (h0 : val B l = 0) : l = [] := by
 have key : ∀ l : List Nat, val B l = 0 -> ∀ x ∈ l, x = 0 := by
  intro l; induction l with
  | nil => simp_all
  | cons a l ih =>
   grind [val, Nat.mul_eq_zero]
 rcases List.eq_nil_or_concat l with e | ⟨m, a, e⟩
 ·exact e
 ·exfalso
  subst e; have := h (by simp)
  simp at this; exact this (key _ h0 a (by simp))
theorem z8u {B : Nat} {l : List Nat} (h : norm l) (hne : l ≠ []) : B ^ (l.length - 1) <= val B l := by
 rcases List.eq_nil_or_concat l with e | ⟨m, a, e⟩
 ·simp_all
 ·rw [List.concat_eq_append] at e
  subst e; have := h (by simp)
  simp at this; rw [zjg]; simp only [ybg, ybn, ybx, val]; have : 1 <= a + B * 0 := by omega
  calc B ^ (m.length + 1 - 1) = B ^ m.length * 1 := by simp
   _ <= B ^ m.length * (a + B * 0) := ybv _ this
   _ <= _ := Nat.le_add_left _ _
theorem z8t {B : Nat} (hB : 0 < B) : ∀ {l m : List Nat}, za2 B l -> za2 B m -> l.length = m.length -> val B l = val B m -> l = m
 | [], [], _, _, _, _ => rfl
 | a :: l, b :: m, h1, h2, hl, hv => by
  have ha := h1 a yby
  have hb := h2 b yby
  simp only [val] at hv; have e1 : a = b := by
   grind [Nat.add_mul_mod_self_left, Nat.mod_eq_of_lt]
  subst e1; have e2 : val B l = val B m := by
   grind [Nat.eq_of_mul_eq_mul_left]
  rw [z8t hB (fun x hx => h1 x (ybr _ hx)) (fun x hx => h2 x (ybr _ hx)) (by simp_all) e2]
 | [], _ :: _, _, _, h, _ => by simp at h
 | _ :: _, [], _, _, h, _ => by simp at h
theorem zeq {B : Nat} (hB : 1 < B) {l m : List Nat} (h1 : za2 B l) (h3 : norm m) (hv : val B m <= val B l) : m.length <= l.length := by
 by_cases hm : m = []
 ·simp [hm]
 ·have a := z8u (B := B) h3 hm
  have b := zg7 (by omega) h1
  have : B ^ (m.length - 1) < B ^ l.length := by omega
  grind [Nat.pow_lt_pow_iff_right]
theorem z4v {B : Nat} (hB : 1 < B) {l m : List Nat} (h1 : za2 B l) (h2 : za2 B m) (h3 : norm l) (h4 : norm m) (hv : val B l = val B m) : l = m := by
 have a := zeq hB h1 h4 (by omega)
 have b := zeq hB h2 h3 (by omega)
 exact z8t (by omega) h1 h2 (by omega) hv
def zxt (a b : List Nat) : Int := if a.length ≠ b.length then (if a.length < b.length then -1 else 1) else go a b
where go : List Nat -> List Nat -> Int
 | a :: l, b :: m => if go l m ≠ 0 then go l m else if a < b then -1 else if b < a then 1 else 0
 | _, _ => 0
theorem zzef {B : Nat} : ∀ {a b : List Nat}, za2 B a -> za2 B b -> a.length = b.length -> (zxt.go a b < 0 ↔ val B a < val B b) /\ (zxt.go a b = 0 ↔ val B a = val B b)
 | [], [], _, _, _ => by simp [zxt.go, val]
 | a :: l, b :: m, h1, h2, hl => by
  have ha := h1 a yby
  have hb := h2 b yby
  obtain ⟨i1, i2⟩ := zzef (a := l) (b := m) (fun x hx => h1 x (ybr _ hx)) (fun x hx => h2 x (ybr _ hx)) (by simp_all)
  have lt_of : ∀ {x y : Nat}, x < y -> ∀ u v, u < B -> u + B * x < v + B * y := by
   intro x y h u v hu; have : B * (x + 1) <= B * y := ybv B h
   grind
  unfold zxt.go; simp only [val]; by_cases h0 : zxt.go l m = 0
  ·grind
  ·rw [yab h0]
   constructor
   ·rw [i1]
    constructor
    ·simp_all
    grind [Nat.lt_trichotomy]
   ·constructor
    ·omega
    ·intro h
     rcases Nat.lt_trichotomy (val B l) (val B m) with g | g | g
     ·have := lt_of g a b ha; omega
     ·omega
     ·have := lt_of g b a hb; omega
 | [], _ :: _, _, _, h => by simp at h
 | _ :: _, [], _, _, h => by simp at h
theorem zzee {B : Nat} (hB : 1 < B) {a b : List Nat} (h1 : za2 B a) (h2 : za2 B b) (h3 : norm a) (h4 : norm b) : zxt a b < 0 ↔ val B a < val B b := by
 unfold zxt; by_cases hl : a.length = b.length
 ·grind [zzef]
 ·rw [yab hl]
  by_cases hlt : a.length < b.length
  ·rw [yab hlt]
   refine ⟨fun _ => ?_, fun _ => by omega⟩
   rcases yau (val B a) (val B b) with g | g
   ·exact g
   ·have := zeq hB h1 h4 g; omega
  ·rw [yaa hlt]
   refine ⟨fun h => by omega, fun h => ?_⟩
   have := zeq hB h2 h3 (by omega); omega
end Go.Am
namespace Go.Am
open Go Go.RowKit
theorem za5 {n : Int} (h1 : 0 <= n) (h2 : n < 18446744073709551616) : zal .u64 n = n := by
 grind [zdu, IntKind.wrap, IntKind.bits, IntKind.signed]
theorem zen {n : Int} (h1 : 0 <= n) (h2 : n < 4294967296) : zal .u32 n = n := by
 grind [zdu, IntKind.wrap, IntKind.bits, IntKind.signed]
theorem zzfk {n : Int} (h1 : 0 <= n) (h2 : n < 65536) : zal .u16 n = n := by
 grind [zdu, IntKind.wrap, IntKind.bits, IntKind.signed]
theorem zvu {n : Int} (h1 : 0 <= n) (h2 : n < 256) : zal .u8 n = n := by
 grind [zdu, IntKind.wrap, IntKind.bits, IntKind.signed]
theorem znc (n : Int) : zal .u64 n = n % 18446744073709551616 := by
 grind [zdu, IntKind.wrap, IntKind.bits, IntKind.signed]
theorem zeb (n : Int) : zal .u32 n = n % 4294967296 := by
 grind [zdu, IntKind.wrap, IntKind.bits, IntKind.signed]
theorem z8o (n : Int) : zal .u16 n = n % 65536 := by
 grind [zdu, IntKind.wrap, IntKind.bits, IntKind.signed]
theorem z5f {k : IntKind} {x y : Nat} : iAnd k (x : Int) (y : Int) = zfr Nat.land k (x : Int) (y : Int) := rfl
theorem zef {f : Nat -> Nat -> Nat} {k : IntKind} {x y : Nat} (h1 : x < kHi k) (h2 : y < kHi k) : zfr f k (x : Int) (y : Int) = some (.int k (f x y : Nat)) := by
 unfold zfr; have e1 : zjq (x : Int) = some x := rfl
 have e2 : zjq (y : Int) = some y := rfl
 rw [e1, zad, e2, zad, zdk.2 h1, zdk.2 h2]; rfl
theorem zw9 {k : IntKind} {x y : Nat} (h0 : 0 < y) (hw : zal k ((x / y : Nat) : Int) = ((x / y : Nat) : Int)) : zzhq k (x : Int) (y : Int) = some (.int k ((x / y : Nat) : Int)) := by
 unfold zzhq; have : iEq (y : Int) 0 = false := by
  grind [zke]
 rw [this, cond_false, Int.tdiv_eq_ediv_of_nonneg (by omega)]
 rw [<- Int.natCast_ediv, hw]
theorem zn5 {k : IntKind} {x y : Nat} (h0 : 0 < y) : zzff k (x : Int) (y : Int) = some (.int k ((x % y : Nat) : Int)) := by
 unfold zzff; have : iEq (y : Int) 0 = false := by
  grind [zke]
 rw [this, cond_false, Int.tmod_eq_emod_of_nonneg (by omega), <- Int.natCast_emod]
theorem zg9 {a b : Int} : (iEq a b = true) ↔ a = b := zke a b
theorem zwt {a b : Int} : ((!iEq a b) = true) ↔ a ≠ b := by rw [ycp, <- Bool.not_eq_true, zg9]
theorem zwu {b : Bool} : ((!b) = true) ↔ b = false := by simp
theorem zrn {a b n : Nat} (h : b < 2 ^ n) : Nat.lor (a * 2 ^ n) b = a * 2 ^ n + b := by
 show a * 2 ^ n ||| b = _
 rw [<- Nat.shiftLeft_eq, <- Nat.shiftLeft_add_eq_or_of_lt h, Nat.shiftLeft_eq]
theorem or_low {a b n : Nat} (h : b < 2 ^ n) (ha : a % 2 ^ n = 0) : Nat.lor a b = a + b := by
 obtain ⟨c, hc⟩ := Nat.dvd_of_mod_eq_zero ha
 grind [Nat.mul_comm, zrn]
theorem RSl.idx {t : Tr zav} {C : Ctx} {T el : Nat} (h : zvq C T el 1 false) {k : IntKind} {l : List Nat} {v : zab} (hr : RSl t 1 (zbc k l) v) {i x : Nat} (hi : l[i]? = some x) :
  ∃ b off, zai C T v (.int .i64 (i : Int)) = some (.ptr b off) /\ zao C el ⟨0, t⟩ (.ptr b off) = some (.int k (x : Int)) := by
 obtain ⟨b, off, cs, h1, h2, _, _, h5⟩ := zvq.at h (fun _ => rfl) hr (z0j hi)
 rw [zkv] at h5; subst h5; exact ⟨b, off, h1, h2⟩
theorem zi1 (x : Nat) (n : Nat) : Int.fdiv (x : Int) (n : Int) = ((x / n : Nat) : Int) := by
 grind
theorem getElem?_of_lt {l : List Nat} {i : Nat} (h : i < l.length) : ∃ x, l[i]? = some x := ⟨l[i], ybd h⟩
theorem zb0 {B : Nat} {l : List Nat} (h : za2 B l) {i x : Nat} (hi : l[i]? = some x) : x < B := h x (ycv hi)
theorem zny {l : List Nat} (h : l ≠ []) : ∃ m x, l = m ++ [x] := by
 rcases List.eq_nil_or_concat l with e | ⟨m, a, e⟩
 all_goals simp_all
end Go.Am
namespace Go.Proofs
open Go Go.Am
variable [zb1]
variable {t : Tr zav}
theorem z86 : ∀ (n : Nat) (l : List Nat) (v : zab), l.length = n -> n < 1125899906842624 -> RSl t 1 (zbc .u32 l) v -> ∃ v', jp 140 2 [v] t (fun u m => u = v' /\ m = t) /\ RSl t 1 (zbc .u32 (zcu l)) v' := by
 intro n; induction n with
 | zero =>
  intro l v hl _ hv; have : l = [] := ycc.1 hl
  subst this; refine ⟨v, zzct ?_, hv⟩
  simp only [uI, uL, uZ, uW, z4a, wpT, hv.len, zaa, zak, zbl, zcz]; simp_all
 | succ n ih =>
  intro l v hl hn hv; obtain ⟨m, x, rfl⟩ := zny (l := l) (by grind)
  have hm : m.length = n := by simp_all
  have hx : (m ++ [x])[m.length]? = some x := by simp
  obtain ⟨b, off, g1, g2⟩ := hv.idx zec hx
  obtain ⟨u, g3, g4⟩ := zvq.front zec hv (k := m.length) (by simp [zbc])
  rw [zvf] at g4; simp only [List.take_left'] at g4; have e1 : (((m ++ [x]).length : Nat) : Int) - 1 = (m.length : Int) := by simp
  by_cases hx0 : x = 0
  ·subst hx0
   obtain ⟨w, h1, h2⟩ := ih m u hm (by omega) g4
   refine ⟨w, zzct ?_, by grind [zo0]⟩
   simp (disch := omega) only [uI, uL, uZ, uW, z4a, wpT, hv.len, zaa, zak, zbl, zcz, zg9, zan, e1, g1, g2, g3]
   simp_all
  ·refine ⟨v, zzct ?_, ?_⟩
   ·simp (disch := omega) only [uI, uL, uZ, uW, z4a, wpT, hv.len, zaa, zak, zbl, zcz, zg9, zan, e1, g1, g2, g3]
    simp_all
   ·rw [zji]
    ·exact hv
    ·intro _; simp_all
theorem zk1 {l : List Nat} {v : zab} (hl : l.length < 1125899906842624) (hv : RSl t 1 (zbc .u32 l) v) : ∃ v', pvC C30 F 140 [v] t = some v' /\ RSl t 1 (zbc .u32 (zcu l)) v' := by
 obtain ⟨v', h1, h2⟩ := z86 _ l v rfl hl hv
 exact ⟨v', zbg.2 (w140 h1), h2⟩
theorem zzil {a b : List Nat} {u v : zab} (hu : RSl t 1 (zbc .u32 a) u) (hv : RSl t 1 (zbc .u32 b) v) (hl : a.length = b.length) : ∀ (n : Nat), n <= a.length -> n < 1125899906842624 -> jp 169 2 [u, v, .int .i64 ((n : Int) - 1)] t (fun w m => w = .int .i64 (zxt.go (a.take n) (b.take n)) /\ m = t) := by
 intro n; induction n with
 | zero =>
  intro _ _; refine zzkd ?_
  simp only [uL, uZ, uW, z9t, wpT, zew]; grind [zxt.go]
 | succ n ih =>
  intro hn hn2; obtain ⟨x, hx⟩ := getElem?_of_lt (l := a) (i := n) (by omega)
  obtain ⟨y, hy⟩ := getElem?_of_lt (l := b) (i := n) (by omega)
  obtain ⟨c, off, g1, g2⟩ := hu.idx zec hx
  obtain ⟨d, off', g3, g4⟩ := hv.idx zec hy
  have e1 : (((n + 1 : Nat) : Int) - 1) = (n : Int) := by omega
  have key : ∀ (a b : List Nat) (x y : Nat), a.length = b.length -> zxt.go (a ++ [x]) (b ++ [y]) = if x < y then -1 else if y < x then 1 else zxt.go a b := by
   intro a; induction a with
   | nil =>
    grind [zxt.go]
   | cons p a ih =>
    intro b x y h
    cases b with
    | nil => simp at h
    | cons q b =>
     grind [zxt.go]
  have e2 : zxt.go (a.take (n + 1)) (b.take (n + 1)) = if x < y then -1 else if y < x then 1 else zxt.go (a.take n) (b.take n) := by
   grind [List.take_add_one]
  rw [e1, e2]; refine zzkd ?_
  simp (disch := omega) only [uL, uZ, uW, z9t, wpT, zaa, zak, zcz, zew, zwt, g1, g2, g3, g4, zan]
  grind
theorem zzkz {a b : List Nat} {u v : zab} (ha : a.length < 1125899906842624) (hu : RSl t 1 (zbc .u32 a) u) (hv : RSl t 1 (zbc .u32 b) v) : pvC C30 F 169 [u, v] t = some (.int .i64 (zxt a b)) := by
 refine zbg.2 (w169 ?_)
 simp (disch := omega) only [uI, uZ, uW, t169, wpT, hu.len, hv.len, zaa, zak, zbl, zcz, zwt, zan]
 unfold zxt; by_cases hl : a.length = b.length
 ·rw [yaa (by omega), yaa (by omega)]
  have := zzil hu hv hl a.length (ybk _) ha
  grind
 grind
def zhv (neg : Bool) (l : List Nat) : Bool := if l = [] then !neg else decide (l.length <= 1024) && decide (l.getLast? ≠ some 0)
theorem zlu {neg : Bool} {l : List Nat} {v : zab} (hl : l.length < 1125899906842624) (hv : RSl t 1 (zbc .u16 l) v) : pvC C30 F 123 [.agg [.bool neg, v]] t = some (.bool (zhv neg l)) := by
 refine zbg.2 (w123 ?_)
 unfold zhv; by_cases h0 : l = []
 ·subst h0
  simp only [uI, uH, uFa, uZ, uW, t123, wpT, hv.len, zaa, zak, zbl, zg9]; simp
 ·obtain ⟨m, x, rfl⟩ := zny h0
  have hx : (m ++ [x])[m.length]? = some x := by simp
  obtain ⟨b, off, g1, g2⟩ := hv.idx zzjp hx
  have e1 : (((m ++ [x]).length : Nat) : Int) - 1 = (m.length : Int) := by simp
  have hlm : m.length < 1125899906842624 := by omega
  simp (disch := omega) only [uI, uH, uFa, uZ, uW, t123, wpT, hv.len, zaa, zak, zbl, zg9, zew, zan, e1, g1, g2]
  rw [yaa (by omega), yaa h0]
  by_cases h1 : (m ++ [x]).length <= 1024
  ·rw [yab (by omega)]
   simp only [h1, decide_true, ycn]; by_cases hx0 : x = 0
   ·grind [zp4]
   ·have : iEq (x : Int) 0 = false := by
     grind [zke]
    simp_all
  grind
theorem z48 {neg : Bool} {l : List Nat} {v : zab} (hv : RSl t 1 (zbc .u16 l) v) : pvC C30 F 158 [.agg [.bool neg, v]] t = some (.bool (!neg && decide (l = [1]))) := by
 refine zbg.2 (w158 ?_)
 cases neg with
 | true => simp [uI, uH, uFa, uZ, t158, wpT]
 | false =>
  simp only [uI, uH, uFa, uZ, t158, wpT, hv.len, zaa, zak, zbl, zg9]; rw [yab (by rfl)]
  by_cases h1 : l.length = 1
  ·obtain ⟨x, rfl⟩ : ∃ x, l = [x] := by
    cases l with
    | nil => simp at h1
    | cons x r => simp_all
   obtain ⟨b, off, g1, g2⟩ := hv.idx zzjp (i := 0) (x := x) (by simp)
   simp only [Int.natCast_zero] at g1; rw [yab (by simp)]
   simp only [g1, g2, zaa, zak]; by_cases hx : x = 1
   ·grind [zp4]
   ·have : iEq (x : Int) 1 = false := by
     grind [zke]
    simp_all
  ·rw [yaa (by omega)]
   have : l ≠ [1] := by grind
   grind
end Go.Proofs
namespace Go.Am
def zer : List Nat -> List Nat
 | [] => []
 | [a] => [a]
 | a :: b :: l => (a + 65536 * b) :: zer l
theorem zdx : ∀ l : List Nat, (zer l).length = (l.length + 1) / 2
 | [] => rfl
 | [a] => by simp [zer]
 | a :: b :: l => by simp [zer, zdx l]; omega
theorem zrd : ∀ l : List Nat, val 4294967296 (zer l) = val 65536 l
 | [] => rfl
 | [a] => by simp [zer, val]
 | a :: b :: l => by simp only [zer, val, zrd l]; omega
theorem zie : ∀ {l : List Nat}, za2 65536 l -> za2 4294967296 (zer l)
 | [], _ => fun x hx => (by cases hx)
 | [a], h => fun x hx => by
  have := h a (by simp)
  grind [zer]
 | a :: b :: l, h => fun x hx => by
  have h1 := h a (by simp)
  have h2 := h b (by simp)
  rcases ybs.1 hx with rfl | hx
  ·omega
  ·exact zie (l := l) (fun y hy => h y (by simp [hy])) x hx
theorem zjo : ∀ {l : List Nat}, norm l -> norm (zer l)
 | [], _ => fun h => (h rfl).elim
 | [a], h => by
  grind [zer]
 | [a, b], h => by
  intro _; have := h (by simp)
  grind [zer]
 | a :: b :: c :: l, h => by
  intro _; have hn : norm (c :: l) := by
   intro hne; have := h (by simp)
   simp_all
  have hne : zer (c :: l) ≠ [] := by
   grind [zdx]
  have := zjo (l := c :: l) hn hne
  grind [zer]
theorem zo5 : ∀ (l : List Nat) (x : Nat), l.length % 2 = 0 -> zer (l ++ [x]) = zer l ++ [x]
 | [], x, _ => rfl
 | [a], x, h => by simp at h
 | a :: b :: l, x, h => by
  show (a + 65536 * b) :: zer (l ++ [x]) = (a + 65536 * b) :: (zer l ++ [x])
  rw [zo5 l x (by grind)]
theorem zzl : ∀ (l : List Nat) (a x : Nat), l.length % 2 = 0 -> zer (l ++ [a, x]) = zer l ++ [a + 65536 * x]
 | [], a, x, _ => rfl
 | [b], a, x, h => by simp at h
 | c :: b :: l, a, x, h => by
  show (c + 65536 * b) :: zer (l ++ [a, x]) = (c + 65536 * b) :: (zer l ++ [a + 65536 * x])
  rw [zzl l a x (by grind)]
def zbz : List Nat -> List Nat
 | [] => []
 | w :: l => w % 65536 :: w / 65536 :: zbz l
theorem zhx : ∀ l : List Nat, (zbz l).length = 2 * l.length
 | [] => rfl
 | w :: l => by simp [zbz, zhx l]; omega
theorem zj2 : ∀ l : List Nat, val 65536 (zbz l) = val 4294967296 l
 | [] => rfl
 | w :: l => by
  simp only [zbz, val, zj2 l]; omega
theorem zhn : ∀ {l : List Nat}, za2 4294967296 l -> za2 65536 (zbz l)
 | [], _ => fun x hx => (by cases hx)
 | w :: l, h => fun x hx => by
  have h1 := h w (by simp)
  rcases ybs.1 hx with rfl | hx
  ·omega
  ·rcases ybs.1 hx with rfl | hx
   ·omega
   ·exact zhn (l := l) (fun y hy => h y (by simp [hy])) x hx
theorem zhy : ∀ (l : List Nat) (w : Nat), zbz (l ++ [w]) = zbz l ++ [w % 65536, w / 65536]
 | [], w => rfl
 | a :: l, w => by simp [zbz, zhy l w]
theorem znh {l : List Nat} {w : Nat} (hw : w ≠ 0) : zcu (zbz (l ++ [w])) = if w / 65536 = 0 then zbz l ++ [w % 65536] else zbz (l ++ [w]) := by
 rw [zhy]; split
 ·rename_i h
  rw [h, show zbz l ++ [w % 65536, 0] = (zbz l ++ [w % 65536]) ++ [0] by simp, zo0]
  refine zji fun _ => ?_
  grind
 ·rename_i h
  refine zji fun _ => ?_
  grind
end Go.Am
namespace Go.Proofs
open Go Go.Am
variable [zb1]
variable {t : Tr zav}
theorem set_append_right {l m : List Nat} {i x : Nat} (h : l.length = i) : (l ++ m).set i x = l ++ m.set 0 x := by
 simp_all
theorem zzbc {l : List Nat} {v : zab} {b : Nat} {Q : zbo} (hv : RSl t 1 (zbc .u16 l) v) (hl : l.length < 1000000) (hlt : za2 65536 l) (hbase : C30.base <= b) (hb : t.get b = none)
  (hQ : ∀ t' v', TLe t t' -> RSl t' 1 (zbc .u32 (zer l)) v' -> Q v' t') : ∀ (k i : Nat) (t' : Tr zav), i + k = l.length -> TLe t t' -> Own t' b .u32 (zer (l.take i) ++ List.replicate ((l.length + 1) / 2 - (i + 1) / 2) 0) →
  jp 164 2 [.slice b 0 ((l.length + 1) / 2) ((l.length + 1) / 2), v, .int .i64 l.length, .int .i64 i] t' Q := by
 intro k; induction k with
 | zero =>
  intro i t' hi ht ho; refine zzkg ?_
  simp only [uL, uH, uIn, uZ, uW, z9w, wpT, zcz]; rw [yaa (by omega)]
  rw [yca (by omega), show (l.length + 1) / 2 - (i + 1) / 2 = 0 by omega, List.replicate_zero, ycd] at ho
  refine hQ _ _ ht ?_
  have := ho.all (ybk _)
  grind [zdx]
 | succ k ih =>
  intro i t' hi ht ho; obtain ⟨x, hx⟩ := getElem?_of_lt (l := l) (i := i) (by omega)
  have hxlt : x < 65536 := zb0 hlt hx
  obtain ⟨c, off, g1, g2⟩ := (hv.mono ht).idx zzjp hx
  have htake : l.take (i + 1) = l.take i ++ [x] := by grind [List.take_add_one]
  have hlen : (l.take i).length = i := by grind
  obtain ⟨y, hy, hnew⟩ : ∃ y, (zer (l.take i) ++ List.replicate ((l.length + 1) / 2 - (i + 1) / 2) 0)[i / 2]? = some y /\ y < 4294967296 /\ Nat.lor y (x * 2 ^ (16 * (i % 2))) < 4294967296 ∧
    (zer (l.take i) ++ List.replicate ((l.length + 1) / 2 - (i + 1) / 2) 0).set (i / 2) (Nat.lor y (x * 2 ^ (16 * (i % 2)))) = zer (l.take (i + 1)) ++ List.replicate ((l.length + 1) / 2 - (i + 1 + 1) / 2) 0 := by
   rcases Nat.mod_two_eq_zero_or_one i with he | ho1
   ·have hp : (zer (l.take i)).length = i / 2 := by grind [zdx]
    refine ⟨0, ?_, by decide, ?_, ?_⟩
    ·rw [ybp (by omega), hp, Nat.sub_self, List.getElem?_replicate, yab (by omega)]
    ·rw [he]; simp; omega
    ·rw [set_append_right hp, he, htake, zo5 _ _ (by omega)]
     have : Nat.lor 0 (x * 2 ^ (16 * 0)) = x := by simp_all
     rw [this]; obtain ⟨r, hr⟩ : ∃ r, (l.length + 1) / 2 - (i + 1) / 2 = r + 1 := ⟨(l.length + 1) / 2 - (i + 1) / 2 - 1, by omega⟩
     rw [hr, List.replicate_succ, List.set_cons_zero, show (l.length + 1) / 2 - (i + 1 + 1) / 2 = r by omega]
     simp
   ·obtain ⟨p, a, hpa⟩ := zny (l := l.take i) (by grind)
    have hpl : p.length = i - 1 := by grind
    have hpe : p.length % 2 = 0 := by omega
    have ha : a < 65536 := hlt a (List.mem_of_mem_take (by simp_all : a ∈ l.take i))
    have hp : (zer p).length = i / 2 := by grind [zdx]
    rw [hpa, zo5 _ _ hpe]; have hlor : Nat.lor a (x * 2 ^ (16 * 1)) = a + 65536 * x := by
     show a ||| x * 2 ^ (16 * 1) = _
     rw [Nat.or_comm]; have := zrn (a := x) (b := a) (n := 16) (by omega)
     show Nat.lor (x * 2 ^ 16) a = _
     omega
    refine ⟨a, ?_, by omega, ?_, ?_⟩
    all_goals grind [set_append_right, zzl]
  obtain ⟨hy1, hy2, hy3⟩ := hnew
  have hwlen : (zer (l.take i) ++ List.replicate ((l.length + 1) / 2 - (i + 1) / 2) 0).length = (l.length + 1) / 2 := by
   grind [zdx]
  have g3 : zai C30 189 (.slice b 0 ((l.length + 1) / 2) ((l.length + 1) / 2)) (.int .i64 ((i / 2 : Nat) : Int)) = some (.ptr b (0 + i / 2 * 1)) := zc4 zec (by omega)
  rw [show 0 + i / 2 * 1 = i / 2 by omega] at g3; have g4 := ho.load hy zl8 rfl
  obtain ⟨t2, g5, g6, g7⟩ := ho.store (C := C30) hbase (j := i / 2) (by omega) (Nat.lor y (x * 2 ^ (16 * (i % 2)))) zl8 rfl
  rw [hy3] at g6; refine zzkg ?_
  have e1 : Int.tdiv (i : Int) 2 = ((i / 2 : Nat) : Int) := by simp_all
  have e2 : Int.tmod (i : Int) 2 = ((i % 2 : Nat) : Int) := by grind
  have hm := ycy i (show 0 < 2 by decide)
  simp (disch := omega) only [uL, uH, uIn, uZ, uW, z9w, wpT, zcz, g1, g2, zaa, zak, zan, zen, e1, e2, g3, g4]
  rw [yab (by omega)]
  have e3 : zzcz .u32 (x : Int) (16 * ((i % 2 : Nat) : Int)) = some (.int .u32 ((x * 2 ^ (16 * (i % 2)) : Nat) : Int)) := by
   rcases Nat.mod_two_eq_zero_or_one i with h | h <;> rw [h]
   ·simp [zzcz, zrp, zjq]
    rw [zen (by omega) (by omega)]
   ·have : zzcz .u32 (x : Int) (16 * ((1 : Nat) : Int)) = some (.int .u32 (zal .u32 ((x : Int) * 65536))) := rfl
    grind [zen]
  rw [e3]; have hb2 : x * 2 ^ (16 * (i % 2)) < 4294967296 := by
   rcases Nat.mod_two_eq_zero_or_one i with h | h <;> rw [h] <;> omega
  simp only [zaa, zak]; rw [zef (show y < kHi .u32 from hy1) (show x * 2 ^ (16 * (i % 2)) < kHi .u32 from hb2)]
  simp only [zaa, zak]; intro d _ _; rw [g5]; simp only [zaa]; have := ih (i + 1) t2 (by omega) (ht.off hb g7) g6
  simp_all
theorem zwp {l : List Nat} {v : zab} {Q : zbo} (hv : RSl t 1 (zbc .u16 l) v) (hl : l.length < 1000000) (hlt : za2 65536 l)
  (hQ : ∀ t' v', TLe t t' -> RSl t' 1 (zbc .u32 (zer l)) v' -> Q v' t') : Wc C30 F 164 [v] t Q := by
 refine w164 ?_
 have e1 : Int.tdiv ((l.length : Int) + 1) 2 = (((l.length + 1) / 2 : Nat) : Int) := by grind
 simp (disch := omega) only [uI, uZ, uW, t164, wpT, hv.len, zaa, zak, zbl, zan, e1]
 intro b hb hbase; obtain ⟨t', g1, g2, g3, _⟩ := zkb (C := C30) (k := .u32) zjh rfl zl8 rfl rfl (by decide) (n := (l.length + 1) / 2) (by omega) hb
 rw [g1]; simp only [zaa]; exact zzbc hv hl hlt hbase hb hQ l.length 0 t' (by omega) g3 (by grind [zer])
end Go.Proofs
namespace Go.Proofs
open Go Go.Am
variable [zb1]
variable {t : Tr zav}
theorem zzlo {n : Nat} (h : n < 4294967296) : n / 2147483648 = if n.testBit 31 then 1 else 0 := by
 grind
theorem z88 {n : Nat} (h : n < 4294967296) : n.testBit 31 = decide (2147483648 <= n) := by
 grind
theorem zyr {x : Nat} (h : x < 4294967296) : z1j (.int .u32 (x : Int)) = some (.int .u32 (Nat.xor 4294967295 x : Nat)) := by
 grind [z1j, zab.asIntK, zad, Nat.beq, kLo, zar, zef, kHi]
theorem zzga {x y b : Nat} (hx : x < 4294967296) (hy : y < 4294967296) (hb : b < 2) :
  pvC C30 F 179 [.int .u32 x, .int .u32 y, .int .u32 b] t = some (.tup [.int .u32 (((x + 8589934592 - y - b) % 4294967296 : Nat) : Int), .int .u32 (((if x < y + b then 1 else 0) : Nat) : Int)]) := by
 refine zbg.2 (w179 ?_)
 obtain ⟨d, hd⟩ : ∃ d, d = (x + 8589934592 - y - b) % 4294967296 := ⟨_, rfl⟩
 have hdl : d < 4294967296 := by omega
 have e1 : zal .u32 (zal .u32 ((x : Int) - y) - b) = (d : Int) := by
  grind [zeb]
 have hn1 : Nat.xor 4294967295 x < 4294967296 := Nat.xor_lt_two_pow (n := 32) (by decide) hx
 have hn2 : Nat.xor x y < 4294967296 := Nat.xor_lt_two_pow (n := 32) hx hy
 have hn3 : Nat.xor 4294967295 (Nat.xor x y) < 4294967296 := Nat.xor_lt_two_pow (n := 32) (by decide) hn2
 have hn4 : Nat.land (Nat.xor 4294967295 x) y < 4294967296 := yam Nat.and_le_left hn1
 have hn5 : Nat.land (Nat.xor 4294967295 (Nat.xor x y)) d < 4294967296 := yam Nat.and_le_left hn3
 have hn6 : Nat.lor (Nat.land (Nat.xor 4294967295 x) y) (Nat.land (Nat.xor 4294967295 (Nat.xor x y)) d) < 4294967296 := Nat.or_lt_two_pow (n := 32) hn4 hn5
 simp only [uL, t179, wpT, e1]; rw [zyr hx]; simp only [zaa, zak]; rw [z5f, zef (k := .u32) hn1 hy]
 simp only [zaa, zak]; rw [zef (k := .u32) hx hy]
 simp only [zaa, zak]; rw [zyr hn2]; simp only [zaa, zak]; rw [z5f, zef (k := .u32) hn3 hdl]
 simp only [zaa, zak]; rw [zef (k := .u32) hn4 hn5]
 simp only [zaa, zak]; have e2 : Int.fdiv ((Nat.lor (Nat.land (Nat.xor 4294967295 x) y) (Nat.land (Nat.xor 4294967295 (Nat.xor x y)) d) : Nat) : Int) 2147483648 = (((if x < y + b then 1 else 0) : Nat) : Int) := by
  rw [show (2147483648 : Int) = ((2147483648 : Nat) : Int) from rfl, zi1, zzlo hn6]
  congr 1
  have tb : (Nat.lor (Nat.land (Nat.xor 4294967295 x) y) (Nat.land (Nat.xor 4294967295 (Nat.xor x y)) d)).testBit 31 = decide (x < y + b) := by
   show ((4294967295 ^^^ x) &&& y ||| (4294967295 ^^^ (x ^^^ y)) &&& d).testBit 31 = _
   rw [Nat.testBit_or, Nat.testBit_and, Nat.testBit_and, Nat.testBit_xor, Nat.testBit_xor, Nat.testBit_xor, z88 hx, z88 hy, z88 hdl]; have : (4294967295 : Nat).testBit 31 = true := by decide
   rw [this]; by_cases c1 : 2147483648 <= x <;> by_cases c2 : 2147483648 <= y <;> by_cases c3 : 2147483648 <= d <;> by_cases c4 : x < y + b <;> simp only [c1, c2, c3, c4, decide_true, decide_false, Bool.xor_true, Bool.xor_false, Bool.true_xor, Bool.false_xor, Bool.not_true, ycl, Bool.and_true, yay, Bool.or_true, Bool.or_false, Bool.xor_self] <;> omega
  simp_all
 simp_all
theorem zzix {x y c : Nat} (hx : x < 4294967296) (hy : y < 4294967296) (hc : c < 2) :
  pvC C30 F 186 [.int .u32 x, .int .u32 y, .int .u32 c] t = some (.tup [.int .u32 (((x + y + c) % 4294967296 : Nat) : Int), .int .u32 (((x + y + c) / 4294967296 : Nat) : Int)]) := by
 refine zbg.2 (w186 ?_)
 have e0 : ((x : Int) + y) + c = ((x + y + c : Nat) : Int) := by omega
 simp (disch := omega) only [t186, wpT, za5]
 grind [zeb]
theorem zzh7 {h l d : Nat} (hh : h < d) (hl : l < 4294967296) (hd : d < 4294967296) :
  pvC C30 F 184 [.int .u32 h, .int .u32 l, .int .u32 d] t = some (.tup [.int .u32 (((h * 4294967296 + l) / d : Nat) : Int), .int .u32 (((h * 4294967296 + l) % d : Nat) : Int)]) := by
 refine zbg.2 (w184 ?_)
 simp only [t184, wpT, zwt, zew]; rw [yab (by omega), yaa (by omega)]
 refine j184_7 ?_
 have e1 : (h : Int) * 4294967296 = ((h * 4294967296 : Nat) : Int) := by omega
 have hq : (h * 4294967296 + l) / d < 4294967296 := ycu (by
  omega)
 have hr : (h * 4294967296 + l) % d < d := ycy _ (by omega)
 simp (disch := omega) only [uE, zzjg, wpT, za5, e1]
 have e2 : zfr Nat.lor .u64 ((h * 4294967296 : Nat) : Int) (l : Int) = some (.int .u64 ((h * 4294967296 + l : Nat) : Int)) := by
  rw [zef (k := .u64) (show h * 4294967296 < kHi .u64 by show _ < 18446744073709551616; omega) (show l < kHi .u64 by show _ < 18446744073709551616; omega)]
  have := zrn (a := h) (b := l) (n := 32) hl
  rw [show h * 4294967296 = h * 2 ^ 32 by rfl, this]
 rw [e2]; simp only [zaa, zak]; rw [zw9 (k := .u64) (by omega) (by
  grind [za5]), zn5 (k := .u64) (by omega)]
 grind [zaa, zak, zen]
theorem zzhf (v : Nat) (hv : v < 256) : ∃ k, k < 9 /\ zev [0, 1, 2, 2, 3, 3, 3, 3, 4, 4, 4, 4, 4, 4, 4, 4, 5, 5, 5, 5, 5, 5, 5, 5, 5, 5, 5, 5, 5, 5, 5, 5, 6, 6, 6, 6, 6, 6, 6, 6, 6, 6, 6, 6, 6, 6, 6, 6, 6, 6, 6, 6, 6, 6, 6, 6, 6, 6, 6, 6, 6, 6, 6, 6, 7, 7, 7, 7, 7, 7, 7, 7, 7, 7, 7, 7, 7, 7, 7, 7, 7, 7, 7, 7, 7, 7, 7, 7, 7, 7, 7, 7, 7, 7, 7, 7, 7, 7, 7, 7, 7, 7, 7, 7, 7, 7, 7, 7, 7, 7, 7, 7, 7, 7, 7, 7, 7, 7, 7, 7, 7, 7, 7, 7, 7, 7, 7, 7, 8, 8, 8, 8, 8, 8, 8, 8, 8, 8, 8, 8, 8, 8, 8, 8, 8, 8, 8, 8, 8, 8, 8, 8, 8, 8, 8, 8, 8, 8, 8, 8, 8, 8, 8, 8, 8, 8, 8, 8, 8, 8, 8, 8, 8, 8, 8, 8, 8, 8, 8, 8, 8, 8, 8, 8, 8, 8, 8, 8, 8, 8, 8, 8, 8, 8, 8, 8, 8, 8, 8, 8, 8, 8, 8, 8, 8, 8, 8, 8, 8, 8, 8, 8, 8, 8, 8, 8, 8, 8, 8, 8, 8, 8, 8, 8, 8, 8, 8, 8, 8, 8, 8, 8, 8, 8, 8, 8, 8, 8, 8, 8, 8, 8, 8, 8, 8, 8, 8, 8, 8, 8, 8, 8, 8, 8, 8, 8] v = some k /\ (v = 0 /\ k = 0 \/ 0 < k /\ 2 ^ (k - 1) <= v /\ v < 2 ^ k) := by
 have h : ∀ v : Fin 256, (zev [0, 1, 2, 2, 3, 3, 3, 3, 4, 4, 4, 4, 4, 4, 4, 4, 5, 5, 5, 5, 5, 5, 5, 5, 5, 5, 5, 5, 5, 5, 5, 5, 6, 6, 6, 6, 6, 6, 6, 6, 6, 6, 6, 6, 6, 6, 6, 6, 6, 6, 6, 6, 6, 6, 6, 6, 6, 6, 6, 6, 6, 6, 6, 6, 7, 7, 7, 7, 7, 7, 7, 7, 7, 7, 7, 7, 7, 7, 7, 7, 7, 7, 7, 7, 7, 7, 7, 7, 7, 7, 7, 7, 7, 7, 7, 7, 7, 7, 7, 7, 7, 7, 7, 7, 7, 7, 7, 7, 7, 7, 7, 7, 7, 7, 7, 7, 7, 7, 7, 7, 7, 7, 7, 7, 7, 7, 7, 7, 8, 8, 8, 8, 8, 8, 8, 8, 8, 8, 8, 8, 8, 8, 8, 8, 8, 8, 8, 8, 8, 8, 8, 8, 8, 8, 8, 8, 8, 8, 8, 8, 8, 8, 8, 8, 8, 8, 8, 8, 8, 8, 8, 8, 8, 8, 8, 8, 8, 8, 8, 8, 8, 8, 8, 8, 8, 8, 8, 8, 8, 8, 8, 8, 8, 8, 8, 8, 8, 8, 8, 8, 8, 8, 8, 8, 8, 8, 8, 8, 8, 8, 8, 8, 8, 8, 8, 8, 8, 8, 8, 8, 8, 8, 8, 8, 8, 8, 8, 8, 8, 8, 8, 8, 8, 8, 8, 8, 8, 8, 8, 8, 8, 8, 8, 8, 8, 8, 8, 8, 8, 8, 8, 8, 8, 8, 8, 8] v.val).elim false (fun k => decide (k < 9) && (decide (v.val = 0) && decide (k = 0) || decide (0 < k) && decide (2 ^ (k - 1) <= v.val) && decide (v.val < 2 ^ k))) = true := by decide +kernel
 have hv := h ⟨v, hv⟩
 simp only [] at hv; generalize zev _ v = r at hv ⊢
 cases r with
 | none => simp at hv
 | some k =>
  grind
def BL (x k : Nat) : Prop := x = 0 /\ k = 0 \/ 0 < k /\ 2 ^ (k - 1) <= x /\ x < 2 ^ k
theorem zzy {x s : Nat} (hx : x < 256) (hs : s < 100) : ∃ k, k <= 8 /\ BL x k /\ jp 185 15 [.int .u32 x, .int .i64 s] t (fun v m => v = .int .i64 ((s + k : Nat) : Int) /\ m = t) := by
 obtain ⟨k, hk, h1, h2⟩ := zzhf x hx
 refine ⟨k, by omega, h2, zzm1 ?_⟩
 simp (disch := omega) only [uU, uZ, uY, uW, z9k, wpT, zvu]
 unfold zdv; rw [ty9, zad]; have : (zab.int .u8 (x : Int)).asNat = some x := rfl
 rw [this, zad]; simp only [zab.asStr]; rw [show (ATy.desc ⟨.string, 1, 16, [.str []], true⟩).isString = true from rfl, zar]
 grind [zad, zaa, zak, zan]
theorem zzx {x s : Nat} (hx : x < 65536) (hs : s < 90) : ∃ k, k <= 16 /\ BL x k /\ jp 185 9 [.int .u32 x, .int .i64 s] t (fun v m => v = .int .i64 ((s + k : Nat) : Int) /\ m = t) := by
 by_cases h : 256 <= x
 ·obtain ⟨k, h1, h2, h3⟩ := zzy (t := t) (x := x / 256) (s := s + 8) (by omega) (by omega)
  refine ⟨k + 8, by omega, ?_, zzj7 ?_⟩
  ·rcases h2 with h2 | ⟨g1, g2, g3⟩
   ·omega
   ·refine .inr ⟨by omega, ?_, ?_⟩
    ·rw [show k + 8 - 1 = (k - 1) + 8 by omega, Nat.pow_add]; omega
    grind
  ·simp (disch := omega) only [uZ, uW, z9j, wpT, zew, zan]
   grind
 ·obtain ⟨k, h1, h2, h3⟩ := zzy (t := t) (x := x) (s := s) (by omega) (by omega)
  refine ⟨k, by omega, h2, zzj7 ?_⟩
  simp only [uZ, uW, z9j, wpT, zew]; grind
theorem zzhg {x : Nat} (hx : x < 4294967296) : ∃ k, k <= 32 /\ BL x k /\ pvC C30 F 185 [.int .u32 x] t = some (.int .i64 (k : Int)) := by
 by_cases h : 65536 <= x
 ·obtain ⟨k, h1, h2, h3⟩ := zzx (t := t) (x := x / 65536) (s := 16) (by omega) (by omega)
  refine ⟨k + 16, by omega, ?_, zbg.2 (w185 ?_)⟩
  ·rcases h2 with h2 | ⟨g1, g2, g3⟩
   ·omega
   ·refine .inr ⟨by omega, ?_, ?_⟩
    ·rw [show k + 16 - 1 = (k - 1) + 16 by omega, Nat.pow_add]; omega
    grind
  ·simp only [uZ, t185, wpT, zew]
   grind
 ·obtain ⟨k, h1, h2, h3⟩ := zzx (t := t) (x := x) (s := 0) (by omega) (by omega)
  refine ⟨k, by omega, h2, zbg.2 (w185 ?_)⟩
  simp only [uZ, t185, wpT, zew]; grind
theorem zzbx {x : Nat} (hx : x < 4294967296) (h0 : 0 < x) : ∃ s : Nat, s < 32 /\ 2147483648 <= x * 2 ^ s /\ x * 2 ^ s < 4294967296 /\ pvC C30 F 176 [.int .u32 x] t = some (.int .i64 (s : Int)) := by
 obtain ⟨k, h1, h2, h3⟩ := zzhg (t := t) hx
 rcases h2 with h2 | ⟨g1, g2, g3⟩
 ·omega
 ·refine ⟨32 - k, by omega, ?_, ?_, zbg.2 (w176 ?_)⟩
  ·have : 2 ^ (k - 1) * 2 ^ (32 - k) = 2147483648 := by rw [<- Nat.pow_add, show k - 1 + (32 - k) = 31 by omega]
   rw [<- this]; exact ybi _ g2
  ·have : 2 ^ k * 2 ^ (32 - k) = 4294967296 := by rw [<- Nat.pow_add, show k + (32 - k) = 32 by omega]
   rw [<- this]; exact Nat.mul_lt_mul_of_pos_right g3 (Nat.pow_pos (Nat.succ_pos 1))
  ·simp (disch := omega) only [uI, uZ, uW, t176, wpT, q185, h3, zaa, zak, zan]
   grind
end Go.Proofs
namespace Go.Am
theorem zhf {p : List Nat} {n x : Nat} : (p ++ List.replicate (n + 1) 0).set p.length x = (p ++ [x]) ++ List.replicate n 0 := by
 grind
theorem zdi (B : Nat) (l : List Nat) (x : Nat) : val B (l ++ [x]) = val B l + B ^ l.length * x := by rw [zjg]; simp [val]
theorem zek {B : Nat} {l : List Nat} {x : Nat} (h : za2 B l) (hx : x < B) : za2 B (l ++ [x]) := zzey h fun y hy => by simp_all
theorem z6k {B : Nat} {r w d : Nat} (hr : r < d) (hw : w < B) : (r * B + w) / d < B := by
 have hd : 0 < d := by omega
 refine ycu ?_
 have : (r + 1) * B <= d * B := ybi B hr
 grind
theorem zdd {l : List Nat} {i x : Nat} (h : l[i]? = some x) : l.take (i + 1) = l.take i ++ [x] := by rw [ydg, h]; rfl
theorem zcw {l : List Nat} {i x : Nat} (h : l[i]? = some x) : l.drop i = x :: l.drop (i + 1) := by
 have hi := (ybc.1 h)
 rw [ybl hi.1, hi.2]
end Go.Am
namespace Go.Am
open Go Go.RowKit
section
variable {t : Tr zav} {C : Ctx}
theorem zzbv {c : Tr zab} {sz : Nat} : ∀ (cl : List (List zab)) (off : Nat), (∀ (i : Nat) cs, cl[i]? = some cs -> cs.length = sz /\ ∀ (j : Nat) a, cs[j]? = some a -> c.get (off + i * sz + j) = some a) -> c.many (cl.length * sz) off = some cl.flatten := by
 intro cl; induction cl with
 | nil => intro off _; simp; rfl
 | cons cs cl ih =>
  intro off h; obtain ⟨h1, h2⟩ := h 0 cs (by simp)
  have hrest := ih (off + sz) fun i cs' hi => by
   obtain ⟨g1, g2⟩ := h (i + 1) cs' (by simp_all)
   grind
  have key : ∀ (n : Nat) (l r : List zab) (off : Nat), l.length = n -> (∀ (j : Nat) a, l[j]? = some a -> c.get (off + j) = some a) -> ∀ m, c.many m (off + n) = some r -> c.many (n + m) off = some (l ++ r) := by
   intro n; induction n with
   | zero =>
    simp_all
   | succ n ihn =>
    intro l r off hl hg m hm
    cases l with
    | nil => simp at hl
    | cons a l =>
     rw [show n + 1 + m = (n + m) + 1 by omega, Tr.many_succ]
     have := hg 0 a (by simp)
     rw [yct] at this; rw [this, zad, ihn l r (off + 1) (by simp_all) (fun j b hj => by
      have := hg (j + 1) b (by simp_all)
      grind) m (by grind)]
     rfl
  grind [Nat.add_mul]
theorem zm8.first {sz : Nat} {v : zab} {cl : List (List zab)} (h : zm8 t sz v cl) {n : Nat} : zmo ⟨n, t⟩ sz cl.length v = some cl.flatten /\ zu2 v = some cl.length := by
 rcases h with ⟨rfl, rfl⟩ | ⟨b, off, cap, rfl, _, ⟨c, m, lo, h1, _⟩, h2⟩
 ·exact ⟨rfl, rfl⟩
 ·refine ⟨?_, rfl⟩
  unfold zmo; simp only [zab.asSlice]; unfold zax; rw [h1, zad]; simp only [zav.asCells, zad]; refine zzbv cl off fun i cs hi => ?_
  obtain ⟨g1, c', m', lo', g2, g3⟩ := h2 i cs hi
  simp_all
theorem zxd {sz : Nat} : ∀ {cl : List (List zab)}, (∀ (i : Nat) cs, cl[i]? = some cs -> cs.length = sz) -> cl.flatten.length = cl.length * sz := by
 intro cl; induction cl with
 | nil => grind
 | cons c cl ih =>
  intro h; rw [yas, ybg, ybn, ybo, ih fun i cs hi => h (i + 1) cs (by simp_all), h 0 c (by simp)]
  omega
theorem zxe {sz : Nat} : ∀ {cl : List (List zab)}, (∀ (i : Nat) cs, cl[i]? = some cs -> cs.length = sz) -> ∀ (i j : Nat) cs a, cl[i]? = some cs -> cs[j]? = some a -> cl.flatten[i * sz + j]? = some a := by
 intro cl; induction cl with
 | nil => simp_all
 | cons c cl ih =>
  intro h i j cs a hi hj; have hc := h 0 c (by simp)
  rw [yas]
  cases i with
  | zero =>
   grind
  | succ i =>
   rw [ybp (by grind), hc, show (i + 1) * sz + j - sz = i * sz + j by grind]
   exact ih (fun i cs hi => h (i + 1) cs (by simp_all)) i j cs a (by simp_all) hj
theorem zm8.len {sz : Nat} {v : zab} {cl : List (List zab)} (h : zm8 t sz v cl) : ∀ (i : Nat) cs, cl[i]? = some cs -> cs.length = sz := by
 rcases h with ⟨rfl, rfl⟩ | ⟨b, off, cap, rfl, _, _, h2⟩
 all_goals grind
theorem zsr {sz n : Nat} {cl : List (List zab)} {t' : Tr zav} {lo : Option Lo} (hl : ∀ (i : Nat) cs, cl[i]? = some cs -> cs.length = sz) (h : t'.get n = some (.cells (Tr.ofList cl.flatten) (zbf cl.flatten) lo)) (hlo : lo = none \/ ∃ x, lo = some x /\ x.es = sz) : zm8 t' sz (.slice n 0 cl.length cl.length) cl :=
 .inr ⟨n, 0, cl.length, rfl, ybk _, ⟨_, _, _, h, hlo⟩, fun i cs hi => ⟨hl i cs hi, _, _, _, h, fun j a hj => by
  grind [Tr.get_ofList, zxe]⟩⟩
def NB (C : Ctx) (el : Nat) : Prop := ∀ y, C.tys.get el = some y -> zzcx y = false
theorem NB.code {el : Nat} {z : ATy} (h : NB C el) (hz : C.tys.get el = some z) : zhb el z = .sz z.size := by
 unfold zhb; rw [h z hz, yay]; rfl
structure zzi3 (C : Ctx) (T el sz : Nat) : Prop where
 ty : ∃ y, C.tys.get T = some y /\ y.desc.asSlice = some el /\ Nat.beq y.desc.tag 1 = false
 el : ∃ y, C.tys.get el = some y /\ y.size = sz /\ zbf y.zero = sz /\ y.bytes <= 500 /\ 0 < sz
structure ElTy (C : Ctx) (T e sz : Nat) : Prop where
 ty : ∃ y, C.tys.get T = some y /\ y.desc.asSlice = some e /\ Nat.beq y.desc.tag 1 = false
 el : ∃ y, C.tys.get e = some y /\ y.size = sz /\ zbf y.zero = sz /\ y.bytes <= 500 /\ 0 < sz
 nb : NB C e
theorem zta {T el sz : Nat} (hT : ElTy C T el sz) {l : List D} {x s : zab} (hx : RSl t sz l x) (hl : l.length < 1000000) {n : Nat} (hn : t.get n = none)
  (hs : s = .nilslice \/ ∃ b c m, s = .slice b 0 0 0 /\ t.get b = some (.cells c m none)) :
  ∃ v H', zd6 C T T s x ⟨n, t⟩ = some (v, H') /\ RSl H'.t sz l v /\ TLe t H'.t /\ Off n t H'.t := by
 obtain ⟨⟨y, hy1, hy2, hy3⟩, ⟨z, hz1, hz2, hz3, hz4, hz5⟩, hnb⟩ := hT
 have hcode := NB.code hnb hz1
 obtain ⟨cl, he, hd⟩ := hx
 have hcl := hd.length
 obtain ⟨hf, hlen⟩ := he.first (n := n)
 have hall := he.len
 have base : zd6 C T T s x ⟨n, t⟩ = (match s.asSlice with
  | some s => bif Nat.ble (s.2.2.1 + cl.length) s.2.2.2 then zhj C ⟨n, t⟩ z cl.length cl.flatten s else zkf C ⟨n, t⟩ el z cl.length cl.flatten s
  | none => zaj (Nat.beq s.tag 5) (zjc ⟨n, t⟩ el z cl.length cl.flatten)) := by
  unfold zd6 zje; grind [zad, zar]
 have hfl : zbf cl.flatten = cl.length * sz := by grind [za1, zxd]
 have ok : zn7 z 0 0 cl.length cl.flatten = true := by
  unfold zn7; have h1 : Nat.blt (0 + cl.length + 0) 1000000000 = true := zdk.2 (by omega)
  have h2 : Nat.blt ((0 + cl.length + 0) * z.bytes) 1000000000 = true := zdk.2 (by
   have := ydb (show 0 + cl.length + 0 <= 1000000 by omega) hz4
   omega)
  grind [zdk, zds]
 have newT : ∀ (q : zav), TLe t (t.set n q) /\ Off n t (t.set n q) := fun q => ⟨fun c u hc => by
   grind [Tr.get_set], fun c hc => by rw [Tr.get_set, yaa hc]⟩
 rcases hs with rfl | ⟨b, c, m, rfl, hb⟩
 ·by_cases h0 : cl.length = 0
  ·have : cl = [] := ycc.1 h0
   subst this; refine ⟨.nilslice, ⟨n, t⟩, ?_, ⟨[], .inl ⟨rfl, rfl⟩, hd⟩, TLe.refl _, Off.refl _ _⟩
   rw [base]; rfl
  ·refine ⟨.slice n 0 cl.length cl.length, ⟨n + 1, t.set n (.cells (Tr.ofList cl.flatten) (zbf cl.flatten) (some (zhb el z)))⟩, ?_, ⟨cl, zsr hall (show (t.set n _).get n = _ by rw [Tr.get_set, yab rfl]) (.inr ⟨_, rfl, by rw [zpl, hz2]⟩), RDs.mono (newT _).1 _ _ hd⟩, (newT _).1, (newT _).2⟩
   rw [base]; simp only [zab.asSlice]; show zaj true (zjc ⟨n, t⟩ el z cl.length cl.flatten) = _
   rw [zar]; unfold zjc; have : Nat.beq cl.length 0 = false := by
    grind [zds]
   rw [this, cond_false, ok]; rfl
 ·by_cases h0 : cl.length = 0
  ·have : cl = [] := ycc.1 h0
   subst this; refine ⟨.slice b 0 0 0, ⟨n, t⟩, ?_, ⟨[], .inr ⟨b, 0, 0, rfl, ybk _, ⟨c, m, none, hb, .inl rfl⟩, fun i cs hi => by simp at hi⟩, hd⟩, TLe.refl _, Off.refl _ _⟩
   rw [base]; rfl
  ·refine ⟨.slice n 0 cl.length cl.length, ⟨n + 1, t.set n (.cells (Tr.ofList cl.flatten) (zbf cl.flatten) (some (zhb el z)))⟩, ?_, ⟨cl, zsr hall (show (t.set n _).get n = _ by rw [Tr.get_set, yab rfl]) (.inr ⟨_, rfl, by rw [zpl, hz2]⟩), RDs.mono (newT _).1 _ _ hd⟩, (newT _).1, (newT _).2⟩
   rw [base]; simp only [zab.asSlice]; have : Nat.ble (0 + cl.length) 0 = false := by
    grind [zg3]
   rw [this, cond_false]; unfold zkf; simp only []; rw [show ∀ x, (!(Nat.beq 0 1 && x)) = true from fun _ => rfl, zar, ok, zar]
   unfold zax; rw [hb, zad]; simp only [zav.asCells, zad]; unfold zju; simp only [Nat.zero_mul]; show ob (c.many 0 0) _ = _
   rw [show c.many 0 0 = some [] from rfl, zad]; rw [zca, yah, ybw]; rfl
end
end Go.Am
namespace Go.Proofs
open Go Go.Am
variable [zb1]
variable {t : Tr zav}
theorem el259 : ElTy C30 189 56 1 := ⟨⟨_, zjh, rfl, rfl⟩, ⟨_, zl8, rfl, rfl, by decide, by decide⟩, fun y h => by rw [zl8] at h; cases h; rfl⟩
theorem lit0 {T el : Nat} {y z : ATy} (hT : C30.tys.get T = some y) (hel : y.desc.asSlice = some el) (hz : C30.tys.get el = some z) (hs : zbf z.zero = z.size) {b : Nat} (hb : t.get b = none) :
  ∃ H', za8 C30 T 0 [] ⟨b, t⟩ = some (.slice b 0 0 0, H') /\ (∃ c, H'.t.get b = some (.cells c 0 none)) /\ TLe t H'.t := by
 refine ⟨za7 ⟨b, t⟩ [] none, ?_, ⟨Tr.ofList [], ?_⟩, ?_⟩
 ·unfold za8
  rw [hT, zad, hel, zad, hz, zad]; have : (Nat.blt (0 * z.size) 1000000 && Nat.beq (zbf z.zero) z.size) = true := by simp_all
  rw [this]; rfl
 ·show (t.set b _).get b = _
  rw [Tr.get_set, yab rfl]; rfl
 ·intro c u hc
  show (t.set b _).get c = _
  grind [Tr.get_set]
theorem zzin {l : List Nat} {v : zab} {Q : zbo} (hv : RSl t 1 (zbc .u32 l) v) (hl : l.length < 1000000)
  (hQ : ∀ t' v', TLe t t' -> RSl t' 1 (zbc .u32 l) v' -> Q v' t') : Wc C30 F 174 [v] t Q := by
 refine w174 ?_
 have e : (zzfi .eql).f C30 189 (.tmp 3) (.const (.slice none 0 0)) v .nilslice = some (.bool (Nat.beq v.tag 5)) := by
  obtain ⟨cl, h1, _⟩ := hv
  rcases h1 with ⟨rfl, _⟩ | ⟨b, off, cap, rfl, _⟩
  ·kernel_rfl
  ·kernel_rfl
 simp only [uB, t174, wpT, e, zaa, ze0]; split
 ·grind [zk3, zds, TLe.refl]
 ·intro b hb hbase
  obtain ⟨H1, g1, ⟨c, g2⟩, g3⟩ := lit0 (t := t) zjh rfl zl8 rfl hb
  rw [g1]; simp only [zaa]; intro n hn _; obtain ⟨u, H', g4, g5, g6, _⟩ := zta el259 (hv.mono g3) (by grind [zbl]) hn (.inr ⟨b, c, 0, rfl, g2⟩)
  rw [g4]; simp only [zaa]; exact hQ _ _ (g3.trans g6) g5
def zyy (n : Nat) : List Nat := zcu [n % 4294967296, n / 4294967296]
theorem z54 (n : Nat) : val 4294967296 (zyy n) = n := by grind [zyy, zet, val]
theorem z01 {n : Nat} (h : n < 18446744073709551616) : za2 4294967296 (zyy n) := zcx fun x hx => by
 grind
theorem z2h (n : Nat) : norm (zyy n) := zdy _
theorem zzb2 {T el : Nat} {y z : ATy} {k : IntKind} (hT : C30.tys.get T = some y) (hel : y.desc.asSlice = some el) (hz : C30.tys.get el = some z) (hzero : z.zero = [.int k 0]) (hs : z.size = 1) (x : Nat) (hk : True) {b : Nat} (hb : t.get b = none) :
  ∃ H', za8 C30 T 1 [(0, .int k (x : Int))] ⟨b, t⟩ = some (.slice b 0 1 1, H') /\ Own H'.t b k [x] /\ TLe t H'.t := by
 refine ⟨za7 ⟨b, t⟩ [.int k (x : Int)] none, ?_, ⟨Tr.ofList [.int k (x : Int)], ?_, fun j u hj => ?_⟩, ?_⟩
 ·unfold za8
  rw [hT, zad, hel, zad, hz, zad, hs, hzero]; rfl
 ·show (t.set b _).get b = _
  rw [Tr.get_set, yab rfl]; rfl
 ·grind [Tr.get_ofList]
 ·intro c u hc
  show (t.set b _).get c = _
  grind [Tr.get_set]
theorem zzg9 {T el : Nat} {y z : ATy} {k : IntKind} (hT : C30.tys.get T = some y) (hel : y.desc.asSlice = some el) (hz : C30.tys.get el = some z) (hzero : z.zero = [.int k 0]) (hs : z.size = 1) (x x' : Nat) {b : Nat} (hb : t.get b = none) :
  ∃ H', za8 C30 T 2 [(0, .int k (x : Int)), (1, .int k (x' : Int))] ⟨b, t⟩ = some (.slice b 0 2 2, H') /\ Own H'.t b k [x, x'] /\ TLe t H'.t := by
 refine ⟨za7 ⟨b, t⟩ [.int k (x : Int), .int k (x' : Int)] none, ?_, ⟨Tr.ofList [.int k (x : Int), .int k (x' : Int)], ?_, fun j u hj => ?_⟩, ?_⟩
 ·unfold za8
  rw [hT, zad, hel, zad, hz, zad, hs, hzero]; rfl
 ·show (t.set b _).get b = _
  rw [Tr.get_set, yab rfl]; rfl
 ·grind [Tr.get_ofList]
 ·intro c u hc
  show (t.set b _).get c = _
  grind [Tr.get_set]
theorem zzgi {n : Nat} {Q : zbo} (hn : n < 18446744073709551616) (hQ : ∀ t' v', TLe t t' -> RSl t' 1 (zbc .u32 (zyy n)) v' -> Q v' t') : Wc C30 F 173 [.int .u64 n] t Q := by
 refine w173 ?_
 have e1 : zal .u32 (n : Int) = ((n % 4294967296 : Nat) : Int) := by rw [zeb]; omega
 have e2 : zal .u32 (Int.fdiv (n : Int) 4294967296) = ((n / 4294967296 : Nat) : Int) := by
  rw [show Int.fdiv (n : Int) 4294967296 = ((n / 4294967296 : Nat) : Int) from zi1 _ 4294967296, zen (by omega) (by omega)]
 simp only [t173, wpT, e1, e2]; intro b hb _; obtain ⟨H', g1, g2, g3⟩ := zzg9 (t := t) (k := .u32) zjh rfl zl8 rfl rfl (n % 4294967296) (n / 4294967296) hb
 rw [g1]; simp only [zaa]; obtain ⟨v', h1, h2⟩ := zk1 (l := [n % 4294967296, n / 4294967296]) (by simp) (g2.all (ybk _))
 simp only [zzmd]; have h1 : pvC C30 F 140 [.slice b 0 2 2] H'.t = some v' := h1
 rw [h1]; exact hQ _ _ g3 h2
theorem z1i {l : List Nat} {v : zab} {b : Nat} {neg : Bool} {Q : zbo} (hv : RSl t 1 (zbc .u32 l) v) (hl : l.length < 400000) (hlt : za2 4294967296 l) (hne : l ≠ []) (hnorm : norm l) (hbase : C30.base <= b) (hb : t.get b = none)
  (hQ : ∀ t' v', TLe t t' -> RSl t' 1 (zbc .u16 (zcu (zbz l))) v' -> Q (.agg [.bool neg, v']) t') : ∀ (k i : Nat) (t' : Tr zav), i + k = l.length -> TLe t t' -> Own t' b .u16 (zbz (l.take i) ++ List.replicate (2 * k) 0) →
  jp 141 2 [.bool neg, .slice b 0 (2 * l.length) (2 * l.length), v, .int .i64 l.length, .int .i64 i, .bool false, .nilslice] t' Q := by
 intro k; induction k with
 | zero =>
  intro i t' hi ht ho; refine zzkj ?_
  rw [yca (by omega), yat, List.replicate_zero, ycd] at ho
  obtain ⟨m, w, rfl⟩ := zny hne
  have hw : w ≠ 0 := by have := hnorm (by simp); simp_all
  have hwlt : w < 4294967296 := hlt w (by simp)
  have hul : (zbz (m ++ [w])).length = 2 * (m ++ [w]).length := zhx _
  have hml : (m ++ [w]).length = m.length + 1 := by simp
  have hlast : (zbz (m ++ [w]))[2 * m.length + 1]? = some (w / 65536) := by
   grind [zhy]
  have hread := ho.all (cap := 2 * (m ++ [w]).length) (by omega)
  rw [hul] at hread; have g3 : zai C30 41 (.slice b 0 (2 * (m ++ [w]).length) (2 * (m ++ [w]).length)) (.int .i64 ((2 * m.length + 1 : Nat) : Int)) = some (.ptr b (0 + (2 * m.length + 1) * 1)) := zc4 zzjp (by omega)
  rw [show 0 + (2 * m.length + 1) * 1 = 2 * m.length + 1 by omega] at g3
  have g4 := ho.load hlast zzi8 rfl
  have e1 : ((2 * (m ++ [w]).length : Nat) : Int) - 1 = ((2 * m.length + 1 : Nat) : Int) := by omega
  have hlen : zb6 (.slice b 0 (2 * (m ++ [w]).length) (2 * (m ++ [w]).length)) = some (.int .i64 ((2 * (m ++ [w]).length : Nat) : Int)) := rfl
  have hb2 : 2 * m.length + 1 < 1000000 := by omega
  simp (disch := omega) only [uI, uL, uH, uOn, uIn, uZ, uW, z91, wpT, zcz, hlen, zaa, zak, e1, zan, g3, g4, zg9]
  rw [yaa (by omega)]
  by_cases hz : w / 65536 = 0
  ·rw [yab (by omega)]
   obtain ⟨u, g5, g6⟩ := zvq.front zzjp hread (k := 2 * m.length + 1) (by grind [zbl])
   rw [g5]; simp only [zaa]; have hone : zfh zab.one [.bool neg, u] = true := by
    show (bif zab.one (.bool neg) then (bif zab.one u then true else false) else false) = true
    rw [g6.one]; rfl
   grind [zvf, znh, zhy, zhx]
  ·rw [yaa (by omega)]
   have hone : zfh zab.one [.bool neg, .slice b 0 (2 * (m ++ [w]).length) (2 * (m ++ [w]).length)] = true := rfl
   grind [znh]
 | succ k ih =>
  intro i t' hi ht ho; obtain ⟨x, hx⟩ := getElem?_of_lt (l := l) (i := i) (by omega)
  have hxlt : x < 4294967296 := zb0 hlt hx
  obtain ⟨c, off, g1, g2⟩ := (hv.mono ht).idx zec hx
  have htl : (l.take i).length = i := by grind
  have hpl : (zbz (l.take i)).length = 2 * i := by rw [zhx, htl]
  have hlen0 : (zbz (l.take i) ++ List.replicate (2 * (k + 1)) 0).length = 2 * l.length := by grind
  have g3 : ∀ j, j < 2 * l.length -> zai C30 41 (.slice b 0 (2 * l.length) (2 * l.length)) (.int .i64 (j : Int)) = some (.ptr b j) := by
   intro j hj; have := zc4 (b := b) (off := 0) (cap := 2 * l.length) zzjp hj
   simp_all
  have g3a := g3 (2 * i) (by omega)
  have g3b := g3 (2 * i + 1) (by omega)
  obtain ⟨t1, s1, s2, s3⟩ := ho.store (C := C30) hbase (j := 2 * i) (by omega) (x % 65536) zzi8 rfl
  have hs2 : (zbz (l.take i) ++ List.replicate (2 * (k + 1)) 0).set (2 * i) (x % 65536) = (zbz (l.take i) ++ [x % 65536]) ++ List.replicate (2 * k + 1) 0 := by
   grind [zhf]
  rw [hs2] at s2; obtain ⟨t2, s4, s5, s6⟩ := s2.store (C := C30) hbase (j := 2 * i + 1) (by simp [hpl]) (x / 65536) zzi8 rfl
  have hs5 : ((zbz (l.take i) ++ [x % 65536]) ++ List.replicate (2 * k + 1) 0).set (2 * i + 1) (x / 65536) = zbz (l.take (i + 1)) ++ List.replicate (2 * k) 0 := by
   have hq : (zbz (l.take i) ++ [x % 65536]).length = 2 * i + 1 := by simp [hpl]
   rw [<- hq, zhf, zdd hx, zhy]; simp
  rw [hs5] at s5; have e1 : zal .u16 (x : Int) = ((x % 65536 : Nat) : Int) := by rw [z8o]; omega
  have e2 : zal .u16 (Int.fdiv (x : Int) 65536) = ((x / 65536 : Nat) : Int) := by
   rw [show Int.fdiv (x : Int) 65536 = ((x / 65536 : Nat) : Int) from zi1 _ 65536, zzfk (by omega) (by omega)]
  have e3 : (2 : Int) * (i : Int) = ((2 * i : Nat) : Int) := by omega
  have e4 : ((2 * i : Nat) : Int) + 1 = ((2 * i + 1 : Nat) : Int) := by omega
  refine zzkj ?_
  simp (disch := omega) only [uI, uL, uH, uOn, uIn, uZ, uW, z91, wpT, zcz, g1, g2, zaa, zak, e1, e2, e3, e4, zan, g3a, g3b]
  rw [yab (by omega)]
  intro d _ _; rw [s1]; simp only [zaa]; intro d' _ _; rw [s4]; simp only [zaa]; have := ih (i + 1) t2 (by omega) ((ht.off hb s3).off hb s6) s5
  grind
theorem zrg {l : List Nat} {v : zab} {neg : Bool} {Q : zbo} (hv : RSl t 1 (zbc .u32 l) v) (hl : l.length < 400000) (hlt : za2 4294967296 l)
  (hQ : ∀ t' v', TLe t t' -> RSl t' 1 (zbc .u16 (zcu (zbz (zcu l)))) v' -> Q (.agg [.bool (if zcu l = [] then false else neg), v']) t') : Wc C30 F 141 [.bool neg, v] t Q := by
 refine w141 ?_
 obtain ⟨u, h1, h2⟩ := zk1 (l := l) (by omega) hv
 have hsl := zk4 l
 simp only [uI, uZ, uW, t141, wpT, zzmd, h1, zaa, h2.len, zak, zbl, zg9]; by_cases h0 : zcu l = []
 ·rw [yab (by grind)]
  simp only [if_true]; have := hQ t .nilslice (TLe.refl _) (by rw [h0]; exact ⟨[], .inl ⟨rfl, rfl⟩, by simp [zbz, zcu, zbc, RDs]⟩)
  simp_all
 ·have hpos : 0 < (zcu l).length := List.length_pos_iff.2 h0
  rw [yaa (by omega)]
  have e1 : (2 : Int) * ((zcu l).length : Int) = ((2 * (zcu l).length : Nat) : Int) := by omega
  simp (disch := omega) only [e1, zan]
  intro b hb hbase; obtain ⟨t', g1, g2, g3, _⟩ := zkb (C := C30) (k := .u16) ty41 rfl zzi8 rfl rfl (by decide) (n := 2 * (zcu l).length) (by omega) hb
  rw [g1]; simp only [zaa]; refine z1i h2 (by omega) (zcx hlt) h0 (zdy l) hbase hb (fun t2 v2 a b => ?_) (zcu l).length 0 t' (by omega) g3 (by grind [zbz])
  simp_all
end Go.Proofs
namespace Go.Proofs
open Go Go.Am
variable [zb1]
variable {t : Tr zav}
theorem zm6 {T el : Nat} (h : zvq C30 T el 1 false) {b n cap j : Nat} (hj : j < n) : zai C30 T (.slice b 0 n cap) (.int .i64 (j : Int)) = some (.ptr b j) := by
 have := zc4 (b := b) (off := 0) (cap := cap) h hj
 simp_all
theorem z5e {x s : Nat} (hs : s < 64) (hx : x * 2 ^ s < 18446744073709551616) : zzcz .u64 (x : Int) (s : Int) = some (.int .u64 ((x * 2 ^ s : Nat) : Int)) := by
 unfold zzcz zrp; have : zjq (s : Int) = some s := rfl
 rw [this, zad, zad]; have hm : min s (IntKind.bits .u64) = s := by show min s 64 = s; omega
 rw [hm]; have e : (x : Int) * Int.ofNat (2 ^ s) = ((x * 2 ^ s : Nat) : Int) := by simp_all
 rw [e, za5 (by omega) (by omega)]
theorem z5d {x s : Nat} (hs : s < 65) : zzne .u64 (x : Int) (s : Int) = some (.int .u64 ((x / 2 ^ s : Nat) : Int)) := by
 unfold zzne zrp; have : zjq (s : Int) = some s := rfl
 rw [this, zad, zad]; have hm : min s (IntKind.bits .u64) = s := by show min s 64 = s; omega
 rw [hm]; have e : Int.fdiv (x : Int) (Int.ofNat (2 ^ s)) = ((x / 2 ^ s : Nat) : Int) := zi1 x (2 ^ s)
 rw [e]
theorem zza9 {s : Nat} (hs : s < 32) : 2 ^ s <= 2147483648 := yao (n := 2) (by decide) (show s <= 31 by omega)
theorem zzi {s : Nat} (hs : s <= 32) : 2 ^ s * 2 ^ (32 - s) = 4294967296 := by rw [<- Nat.pow_add, show s + (32 - s) = 32 by omega]
theorem zzmn {x s : Nat} (hs : s <= 32) : (x * 2 ^ s % 4294967296) % 2 ^ s = 0 := by
 rw [<- zzi hs, ybh x, Nat.mul_mod_mul_left, Nat.mul_mod_right]
theorem zyz {l : List Nat} {v : zab} {b s : Nat} {Q : zbo} (hv : RSl t 1 (zbc .u32 l) v) (hl : l.length < 900000) (hlt : za2 4294967296 l) (hs : s < 32) (hbase : C30.base <= b) (hb : t.get b = none)
  (hQ : ∀ t' r, TLe t t' -> Off b t t' -> Own t' b .u32 r -> r.length = l.length + 1 -> za2 4294967296 r -> val 4294967296 r = val 4294967296 l * 2 ^ s -> Q (.slice b 0 (l.length + 1) (l.length + 1)) t') :
  ∀ (k i : Nat) (t' : Tr zav) (P : List Nat) (c : Nat), i + k = l.length -> TLe t t' -> Off b t t' -> Own t' b .u32 ((P ++ [c]) ++ List.replicate k 0) -> P.length = i -> c < 2 ^ s -> za2 4294967296 P -> val 4294967296 P + 4294967296 ^ i * c = val 4294967296 (l.take i) * 2 ^ s →
  jp 177 2 [.int .i64 s, .slice b 0 (l.length + 1) (l.length + 1), v, .int .i64 l.length, .int .i64 i] t' Q := by
 have hp2 := zza9 hs
 intro k; induction k with
 | zero =>
  intro i t' P c hi ht hoff ho hP hc hPl hval; refine zzka ?_
  simp only [uL, uE, uIn, uZ, z9o, wpT, zcz]; rw [yaa (by omega)]
  rw [List.replicate_zero, ycd] at ho; refine hQ t' (P ++ [c]) ht hoff ho (by grind) (zek hPl (by omega)) ?_
  rw [zdi, hP, hval, yca (by omega)]
 | succ k ih =>
  intro i t' P c hi ht hoff ho hP hc hPl hval; obtain ⟨x, hx⟩ := getElem?_of_lt (l := l) (i := i) (by omega)
  have hxlt : x < 4294967296 := zb0 hlt hx
  obtain ⟨d, off, g1, g2⟩ := (hv.mono ht).idx zec hx
  have hxs : x * 2 ^ s < 4294967296 * 2 ^ s := Nat.mul_lt_mul_of_pos_right hxlt (Nat.pow_pos (by decide))
  have hxs2 : x * 2 ^ s < 18446744073709551616 := by
   omega
  have hlow := zzmn (x := x) (s := s) (by omega)
  have hlor : Nat.lor c (x * 2 ^ s % 4294967296) = x * 2 ^ s % 4294967296 + c := by
   have := or_low (a := x * 2 ^ s % 4294967296) (b := c) (n := s) hc hlow
   simp_all [Nat.or_comm]
  have hsum : x * 2 ^ s % 4294967296 + c < 4294967296 := by
   have h1 : x * 2 ^ s % 4294967296 < 4294967296 := ycy _ (by decide)
   have h2 : (4294967296 : Nat) % 2 ^ s = 0 := by rw [<- zzi (s := s) (by omega), Nat.mul_mod_right]
   obtain ⟨p, hp⟩ := Nat.dvd_of_mod_eq_zero hlow
   obtain ⟨q, hq⟩ := Nat.dvd_of_mod_eq_zero h2
   have hpq : p < q := by
    rcases yau p q with g | g
    ·exact g
    ·have := ybv (2 ^ s) g; omega
   have := ybv (2 ^ s) (show p + 1 <= q from hpq)
   grind
  have hhigh : x * 2 ^ s / 4294967296 < 2 ^ s := ycu (by omega)
  have hlen0 : ((P ++ [c]) ++ List.replicate (k + 1) 0).length = l.length + 1 := by simp; omega
  have g3a := zm6 zec (b := b) (n := l.length + 1) (cap := l.length + 1) (j := i) (by omega)
  have g3b := zm6 zec (b := b) (n := l.length + 1) (cap := l.length + 1) (j := i + 1) (by omega)
  have g4 := ho.load (j := i) (x := c) (by simp_all [ybp]) zl8 rfl
  obtain ⟨t1, s1, s2, s3⟩ := ho.store (C := C30) hbase (j := i) (by omega) (x * 2 ^ s % 4294967296 + c) zl8 rfl
  have hs2 : ((P ++ [c]) ++ List.replicate (k + 1) 0).set i (x * 2 ^ s % 4294967296 + c) = (P ++ [x * 2 ^ s % 4294967296 + c]) ++ List.replicate (k + 1) 0 := by
   simp_all
  rw [hs2] at s2; obtain ⟨t2, s4, s5, s6⟩ := s2.store (C := C30) hbase (j := i + 1) (by grind) (x * 2 ^ s / 4294967296) zl8 rfl
  have hs5 : ((P ++ [x * 2 ^ s % 4294967296 + c]) ++ List.replicate (k + 1) 0).set (i + 1) (x * 2 ^ s / 4294967296) = ((P ++ [x * 2 ^ s % 4294967296 + c]) ++ [x * 2 ^ s / 4294967296]) ++ List.replicate k 0 := by
   have hq : (P ++ [x * 2 ^ s % 4294967296 + c]).length = i + 1 := by simp [hP]
   grind [zhf]
  rw [hs5] at s5; refine zzka ?_
  have e1 : zal .u32 ((x * 2 ^ s : Nat) : Int) = ((x * 2 ^ s % 4294967296 : Nat) : Int) := by rw [zeb]; omega
  have e2 : zal .u32 (Int.fdiv ((x * 2 ^ s : Nat) : Int) 4294967296) = ((x * 2 ^ s / 4294967296 : Nat) : Int) := by
   rw [show Int.fdiv ((x * 2 ^ s : Nat) : Int) 4294967296 = ((x * 2 ^ s / 4294967296 : Nat) : Int) from zi1 _ 4294967296]
   generalize x * 2 ^ s = z at hhigh ⊢
   rw [zen (by omega) (by omega)]
  simp (disch := omega) only [uL, uE, uIn, uZ, z9o, wpT, zcz, g1, g2, zaa, zak, za5, g3a, g4]
  rw [yab (by omega), z5e (by omega) hxs2]
  simp only [zaa, zak, e1]; have e3 : zfr Nat.lor .u32 (c : Int) ((x * 2 ^ s % 4294967296 : Nat) : Int) = some (.int .u32 ((x * 2 ^ s % 4294967296 + c : Nat) : Int)) := by
   rw [zef (k := .u32) (x := c) (y := x * 2 ^ s % 4294967296) (show c < kHi .u32 by show c < 4294967296; omega) (by show x * 2 ^ s % 4294967296 < 4294967296; omega), hlor]
  rw [e3]; simp only [zaa, zak]; intro _ _ _; rw [s1]; simp (disch := omega) only [zaa, zan]
  rw [show (i : Int) + 1 = ((i + 1 : Nat) : Int) by omega, g3b]
  simp only [zaa, e2]; intro _ _ _; rw [s4]; simp only [zaa]; refine ih (i + 1) t2 _ _ (by omega) ((ht.off hb s3).off hb s6) ((hoff.trans s3).trans s6) s5 (by simp [hP]) hhigh (zek hPl hsum) ?_
  rw [zdi, hP, zdd hx, zdi, ybo, <- hval]; have : (l.take i).length = i := by simp; omega
  grind [Nat.div_add_mod]
theorem zuk {l : List Nat} {v : zab} {s : Nat} {Q : zbo} (hv : RSl t 1 (zbc .u32 l) v) (hl : l.length < 900000) (hlt : za2 4294967296 l) (hs : s < 32)
  (hQ : ∀ t' b r, TLe t t' -> t.get b = none -> C30.base <= b -> Own t' b .u32 r -> r.length = l.length + 1 -> za2 4294967296 r -> val 4294967296 r = val 4294967296 l * 2 ^ s -> Q (.slice b 0 (l.length + 1) (l.length + 1)) t') : Wc C30 F 177 [v, .int .i64 s] t Q := by
 refine w177 ?_
 simp (disch := omega) only [uI, uIn, uZ, t177, wpT, hv.len, zaa, zak, zbl, zan]
 intro b hb hbase; obtain ⟨t', g1, g2, g3, g4⟩ := zkb (C := C30) (k := .u32) zjh rfl zl8 rfl rfl (by decide) (n := l.length + 1) (by omega) hb
 rw [show (l.length : Int) + 1 = ((l.length + 1 : Nat) : Int) by omega, g1]
 simp only [zaa]; have := zyz hv hl hlt hs hbase hb (fun t' r a _ c d e f => hQ t' b r a hb hbase c d e f) l.length 0 t' [] 0 (by omega) g3 g4 (by grind) rfl (Nat.pow_pos (by decide)) (fun x hx => by cases hx) (by simp [val])
 exact this
theorem z27 {l : List Nat} {v : zab} {b d : Nat} {Q : zbo} (hv : RSl t 1 (zbc .u32 l) v) (hl : l.length < 900000) (hlt : za2 4294967296 l) (hd : d < 4294967296) (hd0 : 0 < d) (hbase : C30.base <= b) (hb : t.get b = none)
  (hQ : ∀ t' v' q r, TLe t t' -> RSl t' 1 (zbc .u32 (zcu q)) v' -> za2 4294967296 q -> q.length = l.length -> r < d -> val 4294967296 l = val 4294967296 q * d + r -> Q (.tup [v', .int .u32 (r : Nat)]) t') :
  ∀ (i : Nat) (t' : Tr zav) (q : List Nat) (r : Nat), i <= l.length -> TLe t t' -> Own t' b .u32 (List.replicate i 0 ++ q) -> q.length = l.length - i -> za2 4294967296 q -> r < d -> val 4294967296 (l.drop i) = val 4294967296 q * d + r →
  jp 175 2 [v, .int .u32 d, .slice b 0 l.length l.length, .int .u32 r, .int .i64 ((i : Int) - 1)] t' Q := by
 intro i; induction i with
 | zero =>
  intro t' q r _ ht ho hq hql hr hval; refine zzkb ?_
  simp only [uL, uX, uZ, uW, z9p, wpT, zew]; rw [yaa (by omega)]
  rw [List.replicate_zero, yah] at ho; have hread := ho.all (ybk _)
  have hqlen : q.length = l.length := by omega
  rw [hqlen] at hread; obtain ⟨v', h1, h2⟩ := zk1 (l := q) (by omega) hread
  simp only [zzmd, h1, zaa]; grind
 | succ i ih =>
  intro t' q r hi ht ho hq hql hr hval; obtain ⟨x, hx⟩ := getElem?_of_lt (l := l) (i := i) (by omega)
  have hxlt : x < 4294967296 := zb0 hlt hx
  obtain ⟨c, off, g1, g2⟩ := (hv.mono ht).idx zec hx
  have e1 : ((i + 1 : Nat) : Int) - 1 = (i : Int) := by omega
  have g3 := zm6 zec (b := b) (n := l.length) (cap := l.length) (j := i) (by omega)
  have hlen0 : (List.replicate (i + 1) 0 ++ q).length = l.length := by grind
  have hdiv := zzh7 (t := t') hr hxlt hd
  have hqlt : (r * 4294967296 + x) / d < 4294967296 := z6k hr hxlt
  have hrlt : (r * 4294967296 + x) % d < d := ycy _ hd0
  obtain ⟨t1, s1, s2, s3⟩ := ho.store (C := C30) hbase (j := i) (by omega) ((r * 4294967296 + x) / d) zl8 rfl
  have hs2 : (List.replicate (i + 1) 0 ++ q).set i ((r * 4294967296 + x) / d) = List.replicate i 0 ++ ((r * 4294967296 + x) / d :: q) := by
   grind [List.replicate_succ', set_append_right]
  rw [hs2] at s2; rw [e1]; refine zzkb ?_
  simp (disch := omega) only [uL, uX, uZ, uW, z9p, wpT, zew, g1, g2, zaa, zak, q184, hdiv, zb3, zab.asTup, zad, g3, zan]
  rw [yab (by omega)]
  simp only [zbs, yaz, yba, zaa, zak]; intro _ _ _; rw [s1]; simp only [zaa]; refine ih t1 _ _ (by omega) (ht.off hb s3) s2 (by grind) ?_ hrlt ?_
  ·intro y hy
   rcases ybs.1 hy with rfl | hy
   ·exact hqlt
   ·exact hql y hy
  ·rw [zcw hx]
   grind [val, Nat.div_add_mod]
theorem zzdu {l : List Nat} {v : zab} {d : Nat} {Q : zbo} (hv : RSl t 1 (zbc .u32 l) v) (hl : l.length < 900000) (hlt : za2 4294967296 l) (hd : d < 4294967296) (hd0 : 0 < d)
  (hQ : ∀ t' v' q r, TLe t t' -> RSl t' 1 (zbc .u32 (zcu q)) v' -> za2 4294967296 q -> q.length = l.length -> r < d -> val 4294967296 l = val 4294967296 q * d + r -> Q (.tup [v', .int .u32 (r : Nat)]) t') : Wc C30 F 175 [v, .int .u32 d] t Q := by
 refine w175 ?_
 simp (disch := omega) only [uI, uZ, uW, t175, wpT, hv.len, zaa, zak, zbl, zan]
 intro b hb hbase; obtain ⟨t', g1, g2, g3, g4⟩ := zkb (C := C30) (k := .u32) zjh rfl zl8 rfl rfl (by decide) (n := l.length) (by omega) hb
 rw [g1]; simp only [zaa]; exact z27 hv hl hlt hd hd0 hbase hb hQ l.length t' [] 0 (ybk _) g3 (by simp_all) (by simp) (fun x hx => by cases hx) hd0 (by simp [val])
end Go.Proofs
namespace Go.Proofs
open Go Go.Am
variable [zb1]
theorem zzdw {l : List Nat} {y : zab} {box : Nat} {v : zab} {Q : zbo} {I : Nat -> Tr zav -> Prop} (hl : l.length < 1000000)
  (hr : ∀ k t, I k t -> zao C30 189 ⟨0, t⟩ (.ptr box 0) = some v /\ RSl t 1 (zbc .u32 l) v)
  (hy : ∀ k x t, l[k]? = some x -> I (k + 1) t -> ∀ R : zbo, (∀ t', I k t' -> R (.bool true) t') -> zf8 (zkx y [.int .u32 (x : Nat)]) fun p => Wq C30 F zct p.1 p.2 t R)
  (hQ : ∀ t, I 0 t -> Q (.tup []) t) : ∀ (k : Nat) (t : Tr zav), k <= l.length -> I k t -> jp 190 2 [y, .ptr box 0, .int .i64 ((k : Int) - 1)] t Q := by
 intro k; induction k with
 | zero =>
  intro t _ h; refine zzj6 ?_
  simp only [uL, uB, uZ, uW, z9i, wpT, zew]; simp_all
 | succ k ih =>
  intro t hk h; obtain ⟨g0, hv⟩ := hr _ _ h
  obtain ⟨x, hx⟩ := getElem?_of_lt (l := l) (i := k) (by omega)
  obtain ⟨c, off, g1, g2⟩ := hv.idx zec hx
  have e1 : ((k + 1 : Nat) : Int) - 1 = (k : Int) := by omega
  rw [e1]; refine zzj6 ?_
  simp (disch := omega) only [uL, uB, uZ, uW, z9i, wpT, zew, g0, g1, g2, zaa, zak, zan]
  rw [yab (by omega)]
  refine hy k x t hx h _ fun t' ht' => ?_
  grind [zab.asBool, zaa]
theorem zznw {l : List Nat} {y : zab} {box : Nat} {v : zab} {Q : zbo} {t : Tr zav} {I : Nat -> Tr zav -> Prop} (hl : l.length < 1000000)
  (hr : ∀ k t, I k t -> zao C30 189 ⟨0, t⟩ (.ptr box 0) = some v /\ RSl t 1 (zbc .u32 l) v)
  (hy : ∀ k x t, l[k]? = some x -> I (k + 1) t -> ∀ R : zbo, (∀ t', I k t' -> R (.bool true) t') -> zf8 (zkx y [.int .u32 (x : Nat)]) fun p => Wq C30 F zct p.1 p.2 t R)
  (hQ : ∀ t, I 0 t -> Q (.tup []) t) (h : I l.length t) : Wc C30 F 190 [y, .ptr box 0] t Q := by
 obtain ⟨g0, hv⟩ := hr _ _ h
 refine w190 ?_
 simp (disch := omega) only [uI, uZ, uW, t190, wpT, g0, hv.len, zbl, zaa, zak, zan]
 exact zzdw hl hr hy hQ l.length t (ybk _) h
end Go.Proofs
namespace Go.Am
open Go Go.RowKit
section
variable {t tf : Tr zav} {C : Ctx}
theorem zff {n : Nat} (hn : t.get n = none) (q : zav) : TLe t (t.set n q) /\ Off n t (t.set n q) :=
 ⟨fun c u hc => by grind [Tr.get_set], fun c hc => by rw [Tr.get_set, yaa hc]⟩
theorem zvd {sz n : Nat} {cl : List (List zab)} {t' : Tr zav} {lo : Option Lo} (hl : ∀ (i : Nat) cs, cl[i]? = some cs -> cs.length = sz) (h : t'.get n = some (.cells (Tr.ofList cl.flatten) (zbf cl.flatten) lo)) (hlo : lo = none \/ ∃ x, lo = some x /\ x.es = sz) {k : Nat} (hk : cl.length = k) : zm8 t' sz (.slice n 0 k k) cl := by
 grind [zsr]
theorem zld {T el sz n : Nat} {y z : ATy} {ps : List (Nat × zab)} {cl : List (List zab)} (hT : C.tys.get T = some y) (hel : y.desc.asSlice = some el) (hz : C.tys.get el = some z) (hs : z.size = sz) (h0 : zbf z.zero = sz) (hn : n * sz < 1000000)
  (hfill : zlm (fun i => some (i * sz, sz)) ps (zqg z.zero n) = some cl.flatten) (hcl : ∀ (i : Nat) cs, cl[i]? = some cs -> cs.length = sz) (hlen : cl.length = n) {b : Nat} (hb : t.get b = none) :
  ∃ t', za8 C T n ps ⟨b, t⟩ = some (.slice b 0 n n, ⟨b + 1, t'⟩) /\ zm8 t' sz (.slice b 0 n n) cl /\ TLe t t' /\ Off b t t' := by
 refine ⟨t.set b (.cells (Tr.ofList cl.flatten) (zbf cl.flatten) none), ?_, zvd hcl (by rw [Tr.get_set, yab rfl]) (.inl rfl) hlen, (zff hb _).1, (zff hb _).2⟩
 unfold za8; rw [hT, zad, hel, zad, hz, zad]; have : (Nat.blt (n * z.size) 1000000 && Nat.beq (zbf z.zero) z.size) = true := by
  simp_all
 rw [this, zar, hs, hfill]; rfl
def zi5 (cd : Lo) (base : Nat) (tf t : Tr zav) (sz : Nat) (l : List D) (v : zab) : Prop :=
 (v = .nilslice /\ l = []) \/ ∃ b cl c, v = .slice b 0 l.length l.length /\ base <= b /\ tf.get b = none /\ t.get b = some (.cells c (l.length * sz) (some cd)) ∧
  (∀ (i : Nat) cs, cl[i]? = some cs -> cs.length = sz /\ ∀ (j : Nat) a, cs[j]? = some a -> c.get (i * sz + j) = some a) /\ RDs tf l cl
abbrev ztj (base : Nat) (tf t : Tr zav) (sz : Nat) (l : List D) (v : zab) : Prop := zi5 (.sz sz) base tf t sz l v
def zqj (v : zab) (b : Nat) : Prop := ∃ o n c, v = .slice b o n c
theorem zzcy {b : Nat} : ¬ zqj .nilslice b := fun ⟨_, _, _, h⟩ => by cases h
theorem zkd {b c o n k : Nat} : zqj (.slice b o n k) c ↔ c = b := ⟨fun ⟨_, _, _, h⟩ => by grind, fun h => by subst h; exact ⟨_, _, _, rfl⟩⟩
theorem zi5.read {cd : Lo} {base sz : Nat} {l : List D} {v : zab} (hcd : cd.es = sz) (h : zi5 cd base tf t sz l v) (ht : TLe tf t) : RSl t sz l v := by
 rcases h with ⟨rfl, rfl⟩ | ⟨b, cl, c, rfl, _, _, h1, h2, h3⟩
 ·exact ⟨[], .inl ⟨rfl, rfl⟩, zdl.2 rfl⟩
 ·have hlen := h3.length
  refine ⟨cl, .inr ⟨b, 0, l.length, by rw [hlen], by omega, ⟨c, _, _, h1, .inr ⟨_, rfl, hcd⟩⟩, fun i cs hi => ⟨(h2 i cs hi).1, c, _, _, h1, fun j a hj => ?_⟩⟩, RDs.mono ht _ _ h3⟩
  simp_all
theorem zi5.one {cd : Lo} {base sz : Nat} {l : List D} {v : zab} (h : zi5 cd base tf t sz l v) : zab.one v = true := by
 rcases h with ⟨rfl, rfl⟩ | ⟨b, cl, c, rfl, _⟩ <;> rfl
theorem zi5.none {cd : Lo} {base sz : Nat} {l : List D} {v : zab} (h : zi5 cd base tf t sz l v) {b : Nat} (hb : zqj v b) : tf.get b = none /\ base <= b /\ ∃ y, t.get b = some y := by
 rcases h with ⟨rfl, rfl⟩ | ⟨c, cl, x, rfl, h1, h2, h3, _⟩
 all_goals grind [zzcy, zkd]
theorem ztj.keep {base sz : Nat} {l : List D} {v : zab} {t' tf' : Tr zav} (h : ztj base tf t sz l v) (hf : TLe tf tf') (hk : ∀ b, zqj v b -> t'.get b = t.get b /\ tf'.get b = Option.none) : ztj base tf' t' sz l v := by
 rcases h with ⟨rfl, rfl⟩ | ⟨b, cl, c, rfl, h0, h1, h2, h3, h4⟩
 ·exact .inl ⟨rfl, rfl⟩
 ·obtain ⟨k1, k2⟩ := hk b (zkd.2 rfl)
  exact .inr ⟨b, cl, c, rfl, h0, k2, by simp_all, h3, RDs.mono hf _ _ h4⟩
theorem zx0 {T U el sz : Nat} {cd : Lo} (hT : zzi3 C T el sz) (hU : ∃ u, C.tys.get U = some u /\ Nat.beq u.desc.tag 1 = false) (hcd : ∀ z, C.tys.get el = some z -> zhb el z = cd) {l m : List D} {v x : zab} {cm : List (List zab)} (hv : zi5 cd C.base tf t sz l v) (hall : ∀ (i : Nat) cs, cm[i]? = some cs -> cs.length = sz) (hx : ∀ n, zmo ⟨n, t⟩ sz cm.length x = some cm.flatten /\ zu2 x = some cm.length) (hm : RDs tf m cm) (hone : ∀ a ∈ cm.flatten, zab.one a = true) (hpos : 0 < m.length) (hl : l.length + m.length < 400000) {n : Nat} (hn : t.get n = none) (hbase : C.base <= n) (ht : TLe tf t) :
  ∃ t', zd6 C T U v x ⟨n, t⟩ = some (.slice n 0 (l.length + m.length) (l.length + m.length), ⟨n + 1, t'⟩) /\ zi5 cd C.base tf t' sz (l ++ m) (.slice n 0 (l.length + m.length) (l.length + m.length)) /\ TLe tf t' /\ (∀ c, c ≠ n -> ¬ zqj v c -> t'.get c = t.get c) := by
 obtain ⟨⟨y, hy1, hy2, hy3⟩, ⟨z, hz1, hz2, hz3, hz4, hz5⟩⟩ := hT
 have hcode := hcd z hz1
 have hcm := hm.length
 obtain ⟨hf, hlen⟩ := hx n
 obtain ⟨u, hu1, hu2⟩ := hU
 have hflat := zxd hall
 have hfl : zbf cm.flatten = cm.length * sz := by grind [za1]
 have hfn : tf.get n = none := by
  cases hq : tf.get n with
  | none => rfl
  | some u => rw [ht _ _ hq] at hn; cases hn
 have base : zd6 C T U v x ⟨n, t⟩ = (match v.asSlice with
  | some s => bif Nat.ble (s.2.2.1 + cm.length) s.2.2.2 then zhj C ⟨n, t⟩ z cm.length cm.flatten s else zkf C ⟨n, t⟩ el z cm.length cm.flatten s
  | none => zaj (Nat.beq v.tag 5) (zjc ⟨n, t⟩ el z cm.length cm.flatten)) := by
  unfold zd6 zje; grind [zad, zar]
 have ok : zn7 z l.length l.length cm.length cm.flatten = true := by
  unfold zn7; have h1 : Nat.blt (l.length + cm.length + l.length) 1000000000 = true := zdk.2 (by omega)
  have h2 : Nat.blt ((l.length + cm.length + l.length) * z.bytes) 1000000000 = true := zdk.2 (by
   have := ydb (show l.length + cm.length + l.length <= 800000 by omega) hz4
   omega)
  grind [zdk, zds]
 rcases hv with ⟨rfl, rfl⟩ | ⟨b, cl, c, rfl, hb0, hb1, hb2, hb3, hb4⟩
 ·refine ⟨t.set n (.cells (Tr.ofList cm.flatten) (zbf cm.flatten) (some cd)), ?_, .inr ⟨n, cm, Tr.ofList cm.flatten, by simp, hbase, hfn, ?_, fun i cs hi => ⟨hall i cs hi, fun j a hj => ?_⟩, by simp_all⟩, ?_, fun c hc _ => (zff hn _).2 c hc⟩
  ·rw [base]
   simp only [zab.asSlice]; show zaj true (zjc ⟨n, t⟩ el z cm.length cm.flatten) = _
   rw [zar]; unfold zjc; have : Nat.beq cm.length 0 = false := by
    grind [zds]
   have ok : zn7 z 0 0 cm.length cm.flatten = true := ok
   rw [this, cond_false, ok, zar, hcm, hcode]; simp only [ybx, ybw]; rfl
  ·grind [Tr.get_set]
  ·grind [Tr.get_ofList, zxe]
  ·exact ht.trans (zff hn _).1
 ·have hcl := hb4.length
  have hbn : b ≠ n := by grind
  refine ⟨(t.del b).set n (.cells (c.setMany cm.flatten (l.length * z.size)) ((l.length + cm.length) * z.size) (some cd)), ?_, .inr ⟨n, cl ++ cm, c.setMany cm.flatten (l.length * z.size), by simp, hbase, hfn, ?_, fun i cs hi => ?_, ?_⟩, fun k u hk => ?_, fun k hk1 hk2 => ?_⟩
  ·rw [base]
   simp only [zab.asSlice]; have : Nat.ble (l.length + cm.length) l.length = false := by
    grind [zg3]
   rw [this, cond_false]; unfold zkf; simp only []; rw [show ∀ x, (!(Nat.beq 0 1 && x)) = true from fun _ => rfl, zar, ok, zar]
   unfold zax; rw [hb2, zad]; simp only [zav.asCells, zad]; unfold zjv; simp only []; have g1 : loEq cd (zhb el z) = true := by grind [zzb1]
   have g2 : Nat.ble (l.length * z.size) (l.length * sz) = true := zg3.2 (by simp_all)
   have g3 : Nat.ble (l.length * sz) ((l.length + cm.length) * z.size) = true := zg3.2 (by grind)
   have g4 : zfh zab.one cm.flatten = true := by grind [zc5]
   have g5 : (!Nat.blt b C.base) = true := by
    grind [zdk]
   rw [g1, g2, g3, g4, g5]; simp_all
  ·rw [Tr.get_set, yab rfl, hz2, hcm, ybg]
  ·rw [List.getElem?_append] at hi
   split at hi
   ·rename_i hlt
    obtain ⟨k1, k2⟩ := hb3 i cs hi
    refine ⟨k1, fun j a hj => ?_⟩
    have hjl : j < sz := by grind
    have : i * sz + j < l.length * sz := by
     have := ybi sz (show i + 1 <= l.length by omega)
     grind
    grind [Tr.get_setMany]
   ·rename_i hge
    have k1 := hall _ cs hi
    refine ⟨k1, fun j a hj => ?_⟩
    have hf1 := zxe hall _ j cs a hi hj
    have hlt := (ybc.1 hf1).1
    have e : i * sz = l.length * sz + (i - cl.length) * sz := by rw [<- ybo]; simp_all
    grind [Tr.get_setMany]
  ·have app : ∀ {l m : List D} {cl cm : List (List zab)}, RDs tf l cl -> RDs tf m cm -> RDs tf (l ++ m) (cl ++ cm) := by
    intro l; induction l with
    | nil => grind [zdl]
    | cons d l ih =>
     grind [zcg]
   simp_all
  ·have h1 : k ≠ b := by grind
   have h2 : k ≠ n := by grind
   rw [Tr.get_set, yaa h2, Tr.get_del, yaa h1]; exact ht _ _ hk
  grind [Tr.get_set, Tr.get_del, zkd]
theorem zx1 {T el sz : Nat} {cd : Lo} (hT : zzi3 C T el sz) (hcd : ∀ z, C.tys.get el = some z -> zhb el z = cd) {l m : List D} {v x : zab} {cm : List (List zab)} (hv : zi5 cd C.base tf t sz l v) (hx : zm8 t sz x cm) (hm : RDs tf m cm) (hone : ∀ a ∈ cm.flatten, zab.one a = true) (hpos : 0 < m.length) (hl : l.length + m.length < 400000) {n : Nat} (hn : t.get n = none) (hbase : C.base <= n) (ht : TLe tf t) :
  ∃ t', zd6 C T T v x ⟨n, t⟩ = some (.slice n 0 (l.length + m.length) (l.length + m.length), ⟨n + 1, t'⟩) /\ zi5 cd C.base tf t' sz (l ++ m) (.slice n 0 (l.length + m.length) (l.length + m.length)) /\ TLe tf t' /\ (∀ c, c ≠ n -> ¬ zqj v c -> t'.get c = t.get c) := by
 obtain ⟨y, hy1, hy2, hy3⟩ := hT.ty
 exact zx0 hT ⟨y, hy1, hy3⟩ hcd hv hx.len (fun n => hx.first (n := n)) hm hone hpos hl hn hbase ht
theorem z0y {T el sz : Nat} (hT : ElTy C T el sz) {l m : List D} {v x : zab} {cm : List (List zab)} (hv : ztj C.base tf t sz l v) (hx : zm8 t sz x cm) (hm : RDs tf m cm) (hone : ∀ a ∈ cm.flatten, zab.one a = true) (hpos : 0 < m.length) (hl : l.length + m.length < 400000) {n : Nat} (hn : t.get n = none) (hbase : C.base <= n) (ht : TLe tf t) :
  ∃ t', zd6 C T T v x ⟨n, t⟩ = some (.slice n 0 (l.length + m.length) (l.length + m.length), ⟨n + 1, t'⟩) /\ ztj C.base tf t' sz (l ++ m) (.slice n 0 (l.length + m.length) (l.length + m.length)) /\ TLe tf t' /\ (∀ c, c ≠ n -> ¬ zqj v c -> t'.get c = t.get c) := by
 refine zx1 ⟨hT.ty, hT.el⟩ (fun z h => ?_) hv hx hm hone hpos hl hn hbase ht
 obtain ⟨y, h1, h2, _⟩ := hT.el
 rw [hT.nb.code h, show z = y from yci (h.symm.trans h1), h2]
theorem zi5.freeze {cd : Lo} {base sz : Nat} {l : List D} {v : zab} (hcd : cd.es = sz) (h : zi5 cd base tf t sz l v) (ht : TLe tf t) : ∃ tf', TLe tf tf' /\ TLe tf' t /\ RSl tf' sz l v /\ ∀ b, ¬ zqj v b -> tf'.get b = tf.get b := by
 rcases h with ⟨rfl, rfl⟩ | ⟨b, cl, c, rfl, h0, h1, h2, h3, h4⟩
 ·exact ⟨tf, TLe.refl _, ht, ⟨[], .inl ⟨rfl, rfl⟩, zdl.2 rfl⟩, fun _ _ => rfl⟩
 ·have hlen := h4.length
  refine ⟨tf.set b (.cells c (l.length * sz) (some cd)), (zff h1 _).1, fun k u hk => ?_, ⟨cl, .inr ⟨b, 0, l.length, by rw [hlen], by omega, ⟨c, _, _, by rw [Tr.get_set, yab rfl], .inr ⟨_, rfl, hcd⟩⟩, fun i cs hi => ⟨(h3 i cs hi).1, c, _, _, (by rw [Tr.get_set, yab rfl]), fun j a hj => ?_⟩⟩, RDs.mono (zff h1 _).1 _ _ h4⟩, fun k hk => by rw [Tr.get_set, yaa (fun e => hk (zkd.2 e))]⟩
  ·rw [Tr.get_set] at hk
   split at hk
   ·simp_all
   ·exact ht _ _ hk
  simp_all
theorem ztj.freeze {base sz : Nat} {l : List D} {v : zab} (h : ztj base tf t sz l v) (ht : TLe tf t) : ∃ tf', TLe tf tf' /\ TLe tf' t /\ RSl tf' sz l v /\ ∀ b, ¬ zqj v b -> tf'.get b = tf.get b := zi5.freeze rfl h ht
end
end Go.Am
namespace Go.Am
open Go Go.RowKit
def Cel (t : Tr zav) (b : Nat) (lo : Option Lo) (cs : List zab) : Prop := ∃ c, t.get b = some (.cells c cs.length lo) /\ ∀ (j : Nat) a, cs[j]? = some a -> c.get j = some a
def zl9 (cs : List zab) (j : Nat) (l : List zab) : List zab := cs.take j ++ (l ++ cs.drop (j + l.length))
theorem zzn {cs l : List zab} {j : Nat} (h : j + l.length <= cs.length) : (zl9 cs j l).length = cs.length := by
 grind [zl9]
theorem znq {cs l : List zab} {j : Nat} (h : j + l.length <= cs.length) (k : Nat) : (zl9 cs j l)[k]? = if j <= k /\ k < j + l.length then l[k - j]? else cs[k]? := by
 grind [zl9]
section
variable {t tf : Tr zav} {C : Ctx} {b : Nat} {lo : Option Lo} {cs : List zab}
theorem Cel.at (h : Cel t b lo cs) : At t b 0 cs := by
 obtain ⟨c, h1, h2⟩ := h
 exact ⟨c, _, _, h1, fun j a hj => by simp_all⟩
theorem Cel.off (h : Cel t b lo cs) {t' : Tr zav} (k : t'.get b = t.get b) : Cel t' b lo cs := by
 obtain ⟨c, h1, h2⟩ := h
 exact ⟨c, by simp_all, h2⟩
theorem Cel.load1 (h : Cel t b lo cs) {j : Nat} {a : zab} {ty : Nat} {y : ATy} (hy : C.tys.get ty = some y) (ha : y.desc.isAgg = false) (hj : cs[j]? = some a) : zao C ty ⟨0, t⟩ (.ptr b j) = some a := by
 have := h.at.load1 hy ha hj
 simp_all
theorem Cel.store (h : Cel t b lo cs) (hb : C.base <= b) {j T : Nat} {y : ATy} {v : zab} (hT : C.tys.get T = some y) (hl : v.cells.length = y.size) (hj : j + v.cells.length <= cs.length) (hone : zfh zab.one v.cells = true) :
  ∃ t', (∀ n, za0 C T (.ptr b j) v ⟨n, t⟩ = some (zbj, ⟨n, t'⟩)) /\ Cel t' b lo (zl9 cs j v.cells) /\ Off b t t' := by
 obtain ⟨c, h1, h2⟩ := h
 refine ⟨t.set b (.cells (c.setMany v.cells j) cs.length lo), fun n => ?_, ⟨c.setMany v.cells j, ?_, fun k a hk => ?_⟩, fun d hd => by rw [Tr.get_set, yaa hd]⟩
 ·unfold za0
  rw [hT, zad]; simp only [zab.asPtr, zad]; have e1 : Nat.beq (zbf v.cells) y.size = true := by grind [za1, zds]
  rw [e1, zar]; unfold zdw zax; have e2 : (!Nat.blt b C.base) = true := by
   grind [zdk]
  rw [e2, zar, h1, zad]; simp only [zav.asCells, zad]; have e3 : Nat.ble (j + zbf v.cells) cs.length = true := by simp_all
  rw [e3, hone]; rfl
 all_goals grind [Tr.get_set, zzn, znq, Tr.get_setMany]
theorem Cel.store1 (h : Cel t b lo cs) (hb : C.base <= b) {j T : Nat} {y : ATy} {v : zab} (hT : C.tys.get T = some y) (hs : y.size = 1) (hv : v.cells = [v]) (hone : zab.one v = true) (hj : j < cs.length) :
  ∃ t', (∀ n, za0 C T (.ptr b j) v ⟨n, t⟩ = some (zbj, ⟨n, t'⟩)) /\ Cel t' b lo (cs.set j v) /\ Off b t t' := by
 obtain ⟨t', h1, h2, h3⟩ := h.store hb hT (v := v) (j := j) (by simp_all) (by grind) (by rw [hv]; show (bif zab.one v then true else false) = true; simp_all)
 refine ⟨t', h1, ?_, h3⟩
 have e : zl9 cs j v.cells = cs.set j v := by
  rw [hv]; apply List.ext_getElem?
  grind [znq]
 simp_all
theorem z2j {b : Nat} (hb : t.get b = none) (cs : List zab) (lo : Option Lo) : ∃ t', za7 ⟨b, t⟩ cs lo = ⟨b + 1, t'⟩ /\ Cel t' b lo cs /\ TLe t t' /\ Off b t t' :=
 ⟨t.set b (.cells (Tr.ofList cs) (zbf cs) lo), rfl, ⟨Tr.ofList cs, by rw [Tr.get_set, yab rfl, za1], fun j a hj => by grind [Tr.get_ofList]⟩, (zff hb _).1, (zff hb _).2⟩
theorem zeh {b T : Nat} {y : ATy} (hT : C.tys.get T = some y) (hb : t.get b = none) : ∃ t', ze9 C T ⟨b, t⟩ = some (.ptr b 0, ⟨b + 1, t'⟩) /\ Cel t' b none y.zero /\ TLe t t' /\ Off b t t' := by
 obtain ⟨t', h1, h2, h3, h4⟩ := z2j hb y.zero none
 refine ⟨t', ?_, h2, h3, h4⟩
 unfold ze9; rw [hT, zad, <- h1]
theorem zxx {b : Nat} {v : zab} (hb : t.get b = none) : ∃ t', zx9 v ⟨b, t⟩ = some (.ptr b 0, ⟨b + 1, t'⟩) /\ Cel t' b none v.cells /\ TLe t t' /\ Off b t t' := by
 simp_all [z2j, zx9]
end
end Go.Am
namespace Go.Am
open Go Go.RowKit
structure Thg where
 blks : List Nat
 ok : Tr zav -> Tr zav -> Prop
 keep : ∀ {tf t tf' t' : Tr zav}, ok tf t -> TLe tf tf' -> (∀ k ∈ blks, t'.get k = t.get k /\ tf'.get k = none) -> ok tf' t'
 live : ∀ {tf t : Tr zav}, ok tf t -> ∀ k ∈ blks, ∃ y, t.get k = some y
structure zbe (base : Nat) (tf t : Tr zav) (l : List Thg) : Prop where
 tle : TLe tf t
 nodup : (l.flatMap Thg.blks).Nodup
 ok : ∀ o ∈ l, o.ok tf t
 low : ∀ k ∈ l.flatMap Thg.blks, base <= k /\ tf.get k = none
def zzoa (v : zab) : List Nat := match v with | .slice b _ _ _ => [b] | _ => []
theorem zqu {v : zab} {k : Nat} : k ∈ zzoa v ↔ zqj v k := by
 unfold zzoa zqj; grind
def zes (b : Nat) (lo : Option Lo) (cs : List zab) : Thg where
 blks := [b]
 ok := fun _ t => Cel t b lo cs
 keep := fun h _ k => h.off (k b (by simp)).1
 live := fun h k hk => by rw [ydd] at hk; subst hk; obtain ⟨c, hc, _⟩ := h; simp_all
def zg8 (base sz : Nat) (l : List D) (v : zab) : Thg where
 blks := zzoa v
 ok := fun tf t => ztj base tf t sz l v
 keep := fun h hf k => h.keep hf fun b hb => k b (zqu.2 hb)
 live := fun h k hk => (h.none (zqu.1 hk)).2.2
section
variable {base : Nat} {tf t : Tr zav} {l A B : List Thg} {o o' : Thg}
theorem zbe.live (h : zbe base tf t l) {k : Nat} (hk : k ∈ l.flatMap Thg.blks) : ∃ y, t.get k = some y := by
 obtain ⟨o, ho, hk⟩ := List.mem_flatMap.1 hk
 exact o.live (h.ok o ho) k hk
theorem zbe.fresh (h : zbe base tf t l) {n : Nat} (hn : t.get n = none) : n ∉ l.flatMap Thg.blks := by
 intro hm; obtain ⟨y, hy⟩ := h.live hm
 simp_all
theorem zbe.tfn (h : zbe base tf t l) {n : Nat} (hn : t.get n = none) : tf.get n = none := by
 cases hq : tf.get n with
 | none => rfl
 | some y => have := h.tle _ _ hq; simp_all
theorem zbe.keep (h : zbe base tf t l) {tf' t' : Tr zav} (hf : TLe tf tf') (ht : TLe tf' t') (hk : ∀ k ∈ l.flatMap Thg.blks, t'.get k = t.get k /\ tf'.get k = none) : zbe base tf' t' l :=
 ⟨ht, h.nodup, fun o ho => o.keep (h.ok o ho) hf fun k hk' => hk k (List.mem_flatMap.2 ⟨o, ho, hk'⟩), fun k hk' => ⟨(h.low k hk').1, (hk k hk').2⟩⟩
theorem zbe.junk (h : zbe base tf t l) {n : Nat} {t' : Tr zav} (hn : t.get n = none) (ho : Off n t t') : zbe base tf t' l :=
 h.keep (TLe.refl _) (h.tle.off (h.tfn hn) ho) fun k hk => ⟨ho k (fun e : k = n => h.fresh hn (e ▸ hk)), (h.low k hk).2⟩
theorem zbe.other (h : zbe base tf t l) {n : Nat} {t' : Tr zav} (hn : n ∉ l.flatMap Thg.blks) (hf : tf.get n = none) (ho : Off n t t') : zbe base tf t' l :=
 h.keep (TLe.refl _) (h.tle.off hf ho) fun k hk => ⟨ho k (fun e : k = n => hn (e ▸ hk)), (h.low k hk).2⟩
theorem zbe.froze (h : zbe base tf t l) {n : Nat} {y : zav} (hn : n ∉ l.flatMap Thg.blks) (hy : t.get n = some y) (hf : tf.get n = none) : zbe base (tf.set n y) t l /\ TLe tf (tf.set n y) := by
 have h1 := (zff (t := tf) hf y).1
 refine ⟨h.keep h1 (fun k u hk => ?_) fun k hk => ⟨rfl, ?_⟩, h1⟩
 ·rw [Tr.get_set] at hk
  split at hk
  ·simp_all
  ·exact h.tle _ _ hk
 ·rw [Tr.get_set, yaa (fun e : k = n => hn (e ▸ hk))]; exact (h.low k hk).2
theorem zq0 : (A ++ o :: B).flatMap Thg.blks = A.flatMap Thg.blks ++ (o.blks ++ B.flatMap Thg.blks) := by simp
theorem zbe.upd (h : zbe base tf t (A ++ o :: B)) {t' : Tr zav} (hk : ∀ k, k ∉ o.blks -> k ∉ o'.blks -> t'.get k = t.get k) (hn : ∀ k ∈ o'.blks, k ∈ o.blks \/ (t.get k = none /\ base <= k)) (hok : o'.ok tf t') (hnd : o'.blks.Nodup) (ht : TLe tf t') : zbe base tf t' (A ++ o' :: B) := by
 have hd := h.nodup
 rw [zq0] at hd; rw [List.nodup_append] at hd; obtain ⟨d1, d2, d3⟩ := hd
 rw [List.nodup_append] at d2; obtain ⟨d4, d5, d6⟩ := d2
 have oth : ∀ k, k ∈ A.flatMap Thg.blks \/ k ∈ B.flatMap Thg.blks -> k ∉ o.blks /\ k ∉ o'.blks /\ t'.get k = t.get k /\ base <= k /\ tf.get k = none := by
  intro k hk'; have hm : k ∈ (A ++ o :: B).flatMap Thg.blks := by rw [zq0]; simp only [yaf]; rcases hk' with h | h <;> simp [h]
  have h1 : k ∉ o.blks := fun hc => by
   grind
  have h2 : k ∉ o'.blks := fun hc => by
   rcases hn k hc with h' | h'
   ·grind
   ·obtain ⟨y, hy⟩ := h.live hm
    simp_all
  exact ⟨h1, h2, hk k h1 h2, h.low k hm⟩
 have mem : ∀ k, k ∈ (A ++ o' :: B).flatMap Thg.blks -> (k ∈ A.flatMap Thg.blks \/ k ∈ B.flatMap Thg.blks) \/ k ∈ o'.blks := by
  grind
 refine ⟨ht, ?_, fun p hp => ?_, fun k hk' => ?_⟩
 ·grind
 ·have hp' : p ∈ A \/ p = o' \/ p ∈ B := by simp_all
  rcases hp' with h' | h' | h'
  ·exact p.keep (h.ok p (by simp [h'])) (TLe.refl _) fun k hk' => by
    grind
  ·simp_all
  ·exact p.keep (h.ok p (by simp [h'])) (TLe.refl _) fun k hk' => by
    grind
 ·rcases mem k hk' with h' | h'
  ·simp_all
  ·rcases hn k h' with h'' | h''
   ·exact h.low k (by simp_all)
   ·exact ⟨h''.2, h.tfn h''.1⟩
def zzg3 : Thg := ⟨[], fun _ _ => True, fun _ _ _ => trivial, fun _ _ h => by cases h⟩
theorem zbe.add (h : zbe base tf t (A ++ B)) {t' : Tr zav} (hk : ∀ k, k ∉ o'.blks -> t'.get k = t.get k) (hn : ∀ k ∈ o'.blks, t.get k = none /\ base <= k) (hok : o'.ok tf t') (hnd : o'.blks.Nodup) (ht : TLe tf t') : zbe base tf t' (A ++ o' :: B) := by
 have e : zbe base tf t (A ++ zzg3 :: B) := by
  have hm : (A ++ zzg3 :: B).flatMap Thg.blks = (A ++ B).flatMap Thg.blks := by simp [zzg3]
  refine ⟨h.tle, by rw [hm]; exact h.nodup, fun o ho => ?_, fun k hk => h.low k (by simp_all)⟩
  have : o ∈ A \/ o = zzg3 \/ o ∈ B := by simp_all
  rcases this with h' | h' | h'
  ·exact h.ok o (by simp [h'])
  ·subst h'; trivial
  ·exact h.ok o (by simp [h'])
 exact e.upd (fun k _ h2 => hk k h2) (fun k hk => .inr (hn k hk)) hok hnd ht
theorem zbe.drop (h : zbe base tf t (A ++ o :: B)) : zbe base tf t (A ++ B) := by
 have hd := h.nodup
 rw [zq0] at hd; refine ⟨h.tle, ?_, fun p hp => h.ok p (by rcases yaf.1 hp with h | h <;> simp [h]), fun k hk => h.low k (by rw [zq0]; rw [List.flatMap_append] at hk; rcases yaf.1 hk with h | h <;> simp [h])⟩
 grind
theorem zbe.notin (h : zbe base tf t (A ++ o :: B)) {k : Nat} (hk : k ∈ o.blks) : k ∉ (A ++ B).flatMap Thg.blks := by
 have hd := h.nodup
 grind
theorem zbe.freezeL {sz : Nat} {m : List D} {v : zab} (h : zbe base tf t (A ++ zg8 base sz m v :: B)) : ∃ tf', TLe tf tf' /\ zbe base tf' t (A ++ B) /\ RSl tf' sz m v := by
 have hl : ztj base tf t sz m v := h.ok (zg8 base sz m v) (by simp)
 obtain ⟨tf', h1, h2, h3, h4⟩ := hl.freeze h.tle
 refine ⟨tf', h1, h.drop.keep h1 h2 fun k hk => ⟨rfl, ?_⟩, h3⟩
 have hb : ¬ zqj v k := fun hb => h.notin (o := zg8 base sz m v) (zqu.2 hb) hk
 rw [h4 k hb]; exact (h.drop.low k hk).2
end
end Go.Am
namespace Go.Am
open Go Go.RowKit
section
variable {t tf : Tr zav} {C : Ctx}
theorem z3o {T el b k m cap n : Nat} {cs : List zab} {lo : Option Lo} {x : zab} {cm : List (List zab)} (hT : zzi3 C T el 1) (hc : Cel t b lo cs) (hb : C.base <= b) (hx : zm8 t 1 x cm) (hm : cm.length = m) (h0 : 0 < m) (hk : k + m <= cap) (hcap : cap <= cs.length) (hone : ∀ a ∈ cm.flatten, zab.one a = true) :
  ∃ t', zd6 C T T (.slice b 0 k cap) x ⟨n, t⟩ = some (.slice b 0 (k + m) cap, ⟨n, t'⟩) /\ Cel t' b lo (zl9 cs k cm.flatten) /\ Off b t t' := by
 obtain ⟨⟨y, hy1, hy2, hy3⟩, ⟨z, hz1, hz2, hz3, hz4, hz5⟩⟩ := hT
 obtain ⟨hf, hlen⟩ := hx.first (n := n)
 have hfl := zxd hx.len
 rw [Nat.mul_one, hm] at hfl; obtain ⟨c, h1, h2⟩ := hc
 have hne : cm.flatten ≠ [] := by grind
 refine ⟨t.set b (.cells (c.setMany cm.flatten k) cs.length lo), ?_, ⟨c.setMany cm.flatten k, by rw [Tr.get_set, yab rfl, zzn (by omega)], fun j a hj => ?_⟩, fun d hd => by rw [Tr.get_set, yaa hd]⟩
 ·unfold zd6 zje
  rw [hy1, zad, zad, hy3]; simp only [ycl, zar]; rw [hy2, zad, hz1, zad, hlen, zad, hz2, hf, zad]; simp only [zab.asSlice, hm]; rw [zg3.2 hk, cond_true]; unfold zhj
  cases hq : cm.flatten with
  | nil => simp_all
  | cons a r =>
   simp only [hz2, Nat.mul_one, ybw]; rw [<- hq]; unfold zdw zax; have e2 : (!Nat.blt b C.base) = true := by
    grind [zdk]
   rw [e2, zar, h1, zad]; simp only [zav.asCells, zad]; have e3 : Nat.ble (k + zbf cm.flatten) cs.length = true := by grind [za1, zg3]
   have e4 : zfh zab.one cm.flatten = true := by grind [zc5]
   rw [e3, e4]; rfl
 grind [znq, Tr.get_setMany]
def zzel (l : List Nat) : List zab := l.map fun (n : Nat) => zab.int .u8 (n : Int)
theorem zzbw {T el cap : Nat} {y z : ATy} {k : IntKind} (hT : C.tys.get T = some y) (hel : y.desc.asSlice = some el) (hz : C.tys.get el = some z) (hzero : z.zero = [.int k 0]) (hs : z.size = 1) (hby : z.bytes <= 8) (hn : cap < 1000000) {b : Nat} (hb : t.get b = none) :
  ∃ t', zco C T (.int .i64 0) (.int .i64 (cap : Int)) ⟨b, t⟩ = some (.slice b 0 0 cap, ⟨b + 1, t'⟩) /\ Cel t' b none (List.replicate cap (.int k 0)) /\ TLe t t' /\ Off b t t' := by
 have hrep : ∀ n, zqg [zab.int k 0] n = List.replicate n (.int k 0) := by
  intro n; induction n with
  | zero => rfl
  | succ n ih => grind [zqg, zca]
 obtain ⟨t', h1, h2, h3, h4⟩ := z2j hb (List.replicate cap (.int k 0)) none
 refine ⟨t', ?_, h2, h3, h4⟩
 unfold zco; rw [hT, zad, hel, zad, hz, zad]; have e1 : (zab.int .i64 (cap : Int)).asNat = some cap := rfl
 have e0 : (zab.int .i64 0).asNat = some 0 := rfl
 rw [e1, e0, zad, zad]; have e2 : (Nat.ble 0 cap && Nat.blt cap 1000000 && Nat.blt (cap * z.bytes) 1000000000 && Nat.beq (zbf z.zero) z.size) = true := by
  rw [hzero, hs, show Nat.ble 0 cap = true from zg3.2 (yaw _), zdk.2 hn]
  have : cap * z.bytes < 1000000000 := by
   have := ydb (Nat.le_of_lt hn) hby
   omega
  rw [zdk.2 this]; rfl
 rw [e2, zar, hzero, hrep, h1]
end
end Go.Am
namespace Go.Am
open Go
section
variable {C : Ctx} {t tf : Tr zav}
def zvi (k : IntKind) (l : List Nat) : List (List zab) := l.map fun (x : Nat) => [zab.int k (x : Int)]
theorem zx4 {k : IntKind} : ∀ {l : List Nat} {cl : List (List zab)}, RDs t (zbc k l) cl ↔ cl = zvi k l
 | [], cl => by
  show RDs t [] cl ↔ cl = []
  exact zdl
 | x :: l, cl => by
  show RDs t (.int k (x : Int) :: zbc k l) cl ↔ cl = [.int k (x : Int)] :: zvi k l
  rw [zcg]; constructor
  ·rintro ⟨c, r, rfl, h1, h2⟩
   rw [zkv] at h1; rw [h1, zx4.1 h2]
  ·rintro rfl
   exact ⟨_, _, rfl, zkv.2 rfl, zx4.2 rfl⟩
theorem zs1 {k : IntKind} : ∀ (l : List Nat), (zvi k l).flatten = l.map fun (x : Nat) => zab.int k (x : Int)
 | [] => rfl
 | x :: l => by
  show [zab.int k (x : Int)] ++ (zvi k l).flatten = _
  rw [zs1 l]; rfl
theorem z7v {k : IntKind} {l : List Nat} : (zvi k l).length = l.length := by simp [zvi]
theorem z3i (l : List Nat) (h : za2 256 l) : zel zlo (zzel l) = some l := by
 induction l with
 | nil => rfl
 | cons x l ih =>
  have e : zlo (.int .u8 (x : Int)) = some x := by
   unfold zlo; have e1 : zjq (x : Int) = some x := rfl
   simp only [zab.asIntK, zad]; rw [zf2.2 rfl, zar, e1, zad, zdk.2 (h x (by simp))]; rfl
  show zel zlo (.int .u8 (x : Int) :: zzel l) = _
  rw [zcq, e, zad, ih fun y hy => h y (by simp [hy]), zad]
theorem zzii {S Dt el : Nat} {l : List Nat} {v : zab} {yS yD yE : ATy} (hS : C.tys.get S = some yS) (hD : C.tys.get Dt = some yD) (h1 : yD.desc.asInt = none) (h2 : yD.desc.isString = true) (h3 : yS.desc.asSlice = some el) (h4 : C.tys.get el = some yE) (h5 : yE.desc.asInt = some .u8)
  (hv : RSl t 1 (zbc .u8 l) v) (hlt : za2 256 l) : znd C S Dt ⟨0, t⟩ v = some (.str l) := by
 obtain ⟨cl, g1, g2⟩ := hv
 rw [zx4] at g2; subst g2; have hf := (g1.first (n := 0)).1
 have htag : Nat.beq v.tag 2 = false := by
  rcases g1 with ⟨rfl, _⟩ | ⟨b, off, cap, rfl, _⟩ <;> rfl
 unfold znd zpk; rw [hS, zad, hD, zad, h1]; simp only []; rw [h2, zar, htag, cond_false, h3, zad, h4, zad, h5, zad, zf2.2 rfl, zar]; unfold zjz; rcases g1 with ⟨rfl, hn⟩ | ⟨b, off, cap, rfl, _⟩
 ·have : l = [] := by
   grind [z7v]
  subst this; rfl
 ·unfold zmo at hf
  simp only [zab.asSlice, Nat.mul_one] at hf ⊢
  rw [zac] at hf; obtain ⟨c, hc, hf⟩ := hf
  rw [hc, zad, hf, zad, zs1]; have := z3i l hlt
  unfold zzel at this; rw [this, zad]
end
end Go.Am
namespace Go.Am
theorem kn_ge {B m U V head top u2 v2 ur vr : Nat} (hU : U = (head * B + u2) * B ^ m + ur) (hur : ur < B ^ m) (hu2 : u2 < B) (hV : V = (top * B + v2) * B ^ m + vr) (htop : 0 < top) : U / V <= head / top := by
 have hBm : 0 < B ^ m := by omega
 rw [Nat.le_div_iff_mul_le htop]; have h1 : U / V * V <= U := Nat.div_mul_le_self U V
 have h2 : top * B * B ^ m <= V := by
  grind
 have h3 : U < (head + 1) * B * B ^ m := by
  have : head * B + u2 + 1 <= (head + 1) * B := by grind
  have := ybi (B ^ m) this
  grind
 have h4 : U / V * top * (B * B ^ m) < (head + 1) * (B * B ^ m) := by
  calc U / V * top * (B * B ^ m) = U / V * (top * B * B ^ m) := by rw [ybj, ybj]
   _ <= U / V * V := ybv _ h2
   _ <= U := h1
   _ < (head + 1) * B * B ^ m := h3
   _ = (head + 1) * (B * B ^ m) := by rw [ybj]
 exact Nat.lt_succ_iff.1 (Nat.lt_of_mul_lt_mul_right h4)
theorem kn_gt {B m U V head top u2 v2 ur vr d : Nat} (hU : U = (head * B + u2) * B ^ m + ur) (hur : ur < B ^ m) (hV : V = (top * B + v2) * B ^ m + vr) (h : head * B + u2 < d * (top * B + v2)) : U / V < d := by
 rcases yau (U / V) d with g | g
 ·exact g
 ·exfalso
  have h1 : U / V * V <= U := Nat.div_mul_le_self U V
  have h2 : d * V <= U := Nat.le_trans (ybi _ g) h1
  have h3 : d * (top * B + v2) * B ^ m <= d * V := by simp_all [ybj, ybv]
  have h4 := ybi (B ^ m) (show head * B + u2 + 1 <= d * (top * B + v2) from h)
  grind
theorem kn_le {B m U V head top u2 v2 ur vr d : Nat} (hB : 0 < B) (hU : U = (head * B + u2) * B ^ m + ur) (hV : V = (top * B + v2) * B ^ m + vr) (hvr : vr < B ^ m) (htop : 0 < top) (hd : d <= B) (h : d * (top * B + v2) <= head * B + u2) : d <= U / V + 1 := by
 have hVpos : 0 < V := by
  rw [hV]; have : 0 < top * B + v2 := by have := Nat.mul_pos htop hB; omega
  have := Nat.mul_pos this (show 0 < B ^ m by omega)
  omega
 rcases yau (U / V + 1) d with g | g
 ·exfalso
  have h1 : (d - 1) * V <= U := by
   have e1 : d * V <= d * ((top * B + v2) * B ^ m) + d * B ^ m := by
    simp_all [ybm, ybv, Nat.le_of_lt]
   have e2 : d * ((top * B + v2) * B ^ m) <= (head * B + u2) * B ^ m := by rw [<- ybj]; exact ybi _ h
   have e3 : d * B ^ m <= V := by
    have : d * B ^ m <= top * B * B ^ m := by
     refine ybi _ (Nat.le_trans hd ?_)
     exact yan _ htop
    grind
   grind [Nat.sub_mul]
  have := (Nat.le_div_iff_mul_le hVpos).2 h1
  omega
 ·exact g
theorem top2 {B : Nat} (hB : 0 < B) {l : List Nat} {m a b : Nat} (hlt : za2 B l) (hl : l.length = m + 2) (ha : l[m + 1]? = some a) (hb : l[m]? = some b) : val B l = (a * B + b) * B ^ m + val B (l.take m) /\ val B (l.take m) < B ^ m := by
 have e1 := zd5 B l m
 have hlen : (l.take m).length = m := by grind
 rw [hlen] at e1; have e2 : l.drop m = [b, a] := by
  rw [zcw hb, zcw ha, List.drop_of_length_le (by omega)]
 grind [val, zg7, zfm]
theorem top3 {B : Nat} (hB : 0 < B) {l : List Nat} {m a b c : Nat} (hlt : za2 B l) (hl : l.length = m + 3) (ha : l[m + 2]? = some a) (hb : l[m + 1]? = some b) (hc : l[m]? = some c) : val B l = ((a * B + b) * B + c) * B ^ m + val B (l.take m) /\ val B (l.take m) < B ^ m := by
 have e1 := zd5 B l m
 have hlen : (l.take m).length = m := by grind
 rw [hlen] at e1; have e2 : l.drop m = [c, b, a] := by
  rw [zcw hc, zcw hb, zcw ha, List.drop_of_length_le (by omega)]
 grind [val, zg7, zfm]
end Go.Am
