/- Facts on types. (Printed by a tool.) -/
import Derived.Test.YtbgilkcahebbfaaGreatDoorA20
set_option linter.all false
noncomputable section
set_option maxRecDepth 100000
namespace Go.Proofs
open Go Go.Am
variable [zc6]
theorem ty5 : C13.tys.get 5 = some ⟨(.int .u8), 1, 1, [.int .u8 0], true⟩ := by kernel_rfl
theorem ty9 : C13.tys.get 9 = some ⟨.string, 1, 16, [.str []], true⟩ := by kernel_rfl
theorem ty22 : C13.tys.get 22 = some ⟨(.slice 50), 1, 24, [.nilslice], true⟩ := by kernel_rfl
theorem ty24 : C13.tys.get 24 = some ⟨(.struct [(0, 4, 1), (1, 22, 1)]), 2, 32, [.bool false, .nilslice], true⟩ := by kernel_rfl
theorem zzaf : C13.tys.get 32 = some ⟨(.slice 5), 1, 24, [.nilslice], true⟩ := by kernel_rfl
theorem zzae : C13.tys.get 50 = some ⟨(.int .u16), 1, 2, [.int .u16 0], true⟩ := by kernel_rfl
theorem z41 : C13.tys.get 195 = some ⟨(.int .u64), 1, 8, [.int .u64 0], true⟩ := by kernel_rfl
theorem zk4 : C13.tys.get 200 = some ⟨(.slice 202), 1, 24, [.nilslice], true⟩ := by kernel_rfl
theorem zd5 : C13.tys.get 202 = some ⟨(.int .u32), 1, 4, [.int .u32 0], true⟩ := by kernel_rfl
theorem ty237 : C13.tys.get 237 = some ⟨(.slice 24), 1, 24, [.nilslice], true⟩ := by kernel_rfl
theorem sl22 : zxl C13 22 50 1 false := ⟨⟨_, ty22, rfl⟩, ⟨_, zzae, rfl, rfl⟩⟩
theorem sl32 : zxl C13 32 5 1 false := ⟨⟨_, zzaf, rfl⟩, ⟨_, ty5, rfl, rfl⟩⟩
theorem zdl : zxl C13 200 202 1 false := ⟨⟨_, zk4, rfl⟩, ⟨_, zd5, rfl, rfl⟩⟩
theorem sl237 : zxl C13 237 24 2 true := ⟨⟨_, ty237, rfl⟩, ⟨_, ty24, rfl, rfl⟩⟩
end Go.Proofs
namespace Go.Am
open Go Go.RowKit
def zoc (l : List Nat) : List D := l.map fun (n : Nat) => D.int .u16 (n : Int)
theorem zot (l : List Nat) : (zoc l).length = l.length := by simp [zoc]
structure ze1 where
 neg : Bool
 limbs : List Nat
def ze1.d (w : ze1) : D := .st [.bool w.neg, .sl 1 (zoc w.limbs)]
structure ze2 where
 n : ze1
 d : ze1
structure z4h where
 kind : Nat
 f : ze2
 i : Int
inductive zuq where
 | mk (op : Nat) (name : List Nat) (v : z4h) (args : List zuq)
structure XRow where
 a : Int
 b : Int
 known : Int
 f : ze2
structure z9r where
 name : List Nat
 two : Bool
 rows : List XRow
structure XDef where
 name : List Nat
 kind : Nat
 fact : Bool
structure zzz where
 name : List Nat
 label : List Nat
 from_ : Int
 to : Int
 known : Int
 off : Bool
 when_ : zuq
 then_ : zuq
structure XPlan where
 name : List Nat
 defs : List XDef
 tables : List z9r
 clauses : List zzz
section
variable {t : Tr zam} {cs : List zab}
theorem zza6 {w : ze1} (h : RD t w.d cs) : ∃ v, cs = [.bool w.neg, v] /\ RSl t 1 (zoc w.limbs) v := by
 unfold ze1.d at h; simp only [zzc6, zim, zik, zzc7, zz1] at h; obtain ⟨cl, rfl, c, r, rfl, rfl, c', r', rfl, ⟨v, rfl, h⟩, rfl⟩ := h
 exact ⟨v, rfl, h⟩
end
theorem ze1.zs (x : ze1) : x.d.zs = [.bool false, .nilslice] := rfl
def zq2 : Nat := 1125899906842624
def ze2.ok (f : ze2) : Prop := f.n.limbs.length < zq2 /\ f.d.limbs.length < zq2
end Go.Am
namespace Go.Am
open Go Go.RowKit
theorem za7 {a b : Int} : (iLt a b = true) ↔ a < b := zm1 a b
theorem zdi {a b : Int} : (iLe a b = true) ↔ a <= b := zt5 a b
theorem zll (l : List Nat) : (Int.ofNat (zbp l)) = (l.length : Int) := by rw [zav]; rfl
theorem zzev (cs : List zab) : zrl true cs = .agg cs := rfl
end Go.Am
namespace Go.Am
open Go Go.RowKit
def zas (k : IntKind) (l : List Nat) : List D := l.map fun (n : Nat) => D.int k (n : Int)
theorem zat {k : IntKind} (l : List Nat) : (zas k l).length = l.length := by simp [zas]
theorem z82 {k : IntKind} {l : List Nat} {i x : Nat} (h : l[i]? = some x) : (zas k l)[i]? = some (.int k (x : Int)) := by simp [zas, h]
theorem zso {k : IntKind} {l : List Nat} {n : Nat} : (zas k l).take n = zas k (l.take n) := by simp [zas]
def Own (t : Tr zam) (b : Nat) (k : IntKind) (l : List Nat) : Prop := ∃ c, t.get b = some (.cells c l.length none) /\ ∀ (j : Nat) x, l[j]? = some x -> c.get j = some (.int k (x : Int))
def Off (b : Nat) (t t' : Tr zam) : Prop := ∀ c, c ≠ b -> t'.get c = t.get c
theorem Off.refl (b : Nat) (t : Tr zam) : Off b t t := fun _ _ => rfl
theorem Off.trans {b : Nat} {x y z : Tr zam} (h : Off b x y) (k : Off b y z) : Off b x z := fun c hc => (k c hc).trans (h c hc)
section
variable {t t' t0 : Tr zam} {C : Ctx} {b : Nat} {k : IntKind} {l : List Nat}
theorem Own.off (h : Own t b k l) {c : Nat} (hc : b ≠ c) (ho : Off c t t') : Own t' b k l := by
 obtain ⟨x, h1, h2⟩ := h; exact ⟨x, by rw [ho b hc]; exact h1, h2⟩
theorem Own.tle (h : Own t b k l) (ho : TLe t t') : Own t' b k l := by
 obtain ⟨x, h1, h2⟩ := h; exact ⟨x, ho _ _ h1, h2⟩
theorem TLe.off (h : TLe t0 t) (hb : t0.get b = none) (ho : Off b t t') : TLe t0 t' := by
 intro c y hc; rw [ho c (by intro e; rw [e, hb] at hc; cases hc)]
 exact h c y hc
theorem Own.slice (h : Own t b k l) {off n cap : Nat} (hn : off + n <= l.length) (hc : n <= cap) : RSl t 1 (zas k ((l.drop off).take n)) (.slice b off n cap) := by
 obtain ⟨c, h1, h2⟩ := h
 refine ⟨((l.drop off).take n).map fun (x : Nat) => [.int k (x : Int)], .inr ⟨b, off, cap, ?_, ?_, ⟨c, _, none, h1, .inl rfl⟩, fun i cs hi => ?_⟩, ?_⟩
 ·congr 1; simp; omega
 ·simp; omega
 ·simp only [yav, Option.map_eq_some_iff] at hi
  obtain ⟨x, hx, rfl⟩ := hi
  refine ⟨rfl, c, _, none, h1, fun j a hj => ?_⟩
  cases j with
  | zero =>
   simp at hj; subst hj; rw [ycg] at hx; split at hx
   ·rw [ycf] at hx
    exact h2 (off + i * 1 + 0) x (by rw [show off + i * 1 + 0 = off + i by omega]; exact hx)
   ·cases hx
  | succ j => simp at hj
 ·refine RDs.mk (by simp [zas]) fun i d cs hd hc => ?_
  simp only [zas, yav, Option.map_eq_some_iff] at hd hc; obtain ⟨x, hx, rfl⟩ := hd
  obtain ⟨y, hy, rfl⟩ := hc
  rw [hx] at hy; cases hy; rfl
theorem Own.all (h : Own t b k l) {cap : Nat} (hc : l.length <= cap) : RSl t 1 (zas k l) (.slice b 0 l.length cap) := by
 have := h.slice (off := 0) (n := l.length) (by omega) hc
 simpa using this
theorem zdf {T el sz : Nat} {agg : Bool} (h : zxl C T el sz agg) {off n cap i : Nat} (hi : i < n) : zaj C T (.slice b off n cap) (.int .i64 (i : Int)) = some (.ptr b (off + i * sz)) := by
 obtain ⟨⟨y, hy1, hy2⟩, ⟨z, hz1, hz2, hz3⟩⟩ := h
 unfold zaj; rw [hy1, zad]; have : (zab.int .i64 (i : Int)).asNat = some i := rfl
 rw [this, zad]; simp only [zab.asSlice]; rw [hy2, zad, hz1, zad, zcz.2 hi, hz2]; rfl
theorem Own.load (h : Own t b k l) {j x : Nat} (hj : l[j]? = some x) {ty : Nat} {y : ATy} (hy : C.tys.get ty = some y) (ha : y.desc.isAgg = false) : za2 C ty ⟨0, t⟩ (.ptr b j) = some (.int k (x : Int)) := by
 obtain ⟨c, h1, h2⟩ := h
 unfold za2; simp only [zab.asPtr, zad]; rw [hy, zad]; unfold zaq; rw [h1, zad]; simp only [zam.asCells, zad]; unfold zmw; rw [ha, cond_false]; exact h2 j x hj
theorem Own.store (h : Own t b k l) (hb : C.base <= b) {j : Nat} (hj : j < l.length) (x : Nat) {ty : Nat} {y : ATy} (hy : C.tys.get ty = some y) (hs : y.size = 1) :
  ∃ t', (∀ n, zb6 C ty (.ptr b j) (.int k (x : Int)) ⟨n, t⟩ = some (zba, ⟨n, t'⟩)) /\ Own t' b k (l.set j x) /\ Off b t t' := by
 obtain ⟨c, h1, h2⟩ := h
 refine ⟨t.set b (.cells (c.setMany [.int k (x : Int)] j) l.length none), fun n => ?_, ⟨c.setMany [.int k (x : Int)] j, ?_, fun i y hi => ?_⟩, fun d hd => ?_⟩
 ·unfold zb6
  rw [hy, zad]; simp only [zab.asPtr, zad, zab.cells, zab.asAgg]; rw [hs]; have e1 : Nat.beq (zbp [zab.int k (x : Int)]) 1 = true := rfl
  rw [e1, zar]; unfold zd3 zaq; have e2 : (!Nat.blt b C.base) = true := by
   cases hq : Nat.blt b C.base with
   | true => have := zcz.1 hq; omega
   | false => rfl
  rw [e2, zar, h1, zad]; simp only [zam.asCells, zad]; have e3 : Nat.ble (j + zbp [zab.int k (x : Int)]) l.length = true := zhm.2 hj
  have e4 : zgv zab.one [zab.int k (x : Int)] = true := rfl
  rw [e3, e4]; rfl
 ·rw [Tr.get_set, if_pos rfl, yci]
 ·rw [Tr.get_setMany]
  rw [ybx] at hi; split at hi
  ·rename_i e
   subst e; rw [if_pos (by simp)]
   cases hi; simp
  ·rename_i e
   rw [if_neg (by simp; omega)]
   exact h2 i y hi
 ·rw [Tr.get_set, if_neg hd]
theorem zjn {T el : Nat} {y z : ATy} (hT : C.tys.get T = some y) (hel : y.desc.asSlice = some el) (hz : C.tys.get el = some z) (hzero : z.zero = [.int k 0]) (hs : z.size = 1) (hby : z.bytes <= 8) {n : Nat} (hn : n < 1000000) (hb : t.get b = none) :
  ∃ t', zcp C T (.int .i64 (n : Int)) (.int .i64 (n : Int)) ⟨b, t⟩ = some (.slice b 0 n n, ⟨b + 1, t'⟩) /\ Own t' b k (List.replicate n 0) /\ TLe t t' /\ Off b t t' := by
 have hrep : ∀ n, zut [zab.int k 0] n = List.replicate n (.int k 0) := by
  intro n; induction n with
  | zero => rfl
  | succ n ih => unfold zut; rw [ih, zbx, List.replicate_succ]; rfl
 refine ⟨t.set b (.cells (Tr.ofList (zut z.zero n)) (zbp (zut z.zero n)) none), ?_, ⟨Tr.ofList (zut z.zero n), ?_, fun j x hj => ?_⟩, fun c y' hc => ?_, fun c hc => ?_⟩
 ·unfold zcp
  rw [hT, zad, hel, zad, hz, zad]; have e1 : (zab.int .i64 (n : Int)).asNat = some n := rfl
  rw [e1, zad, zad]; have e2 : (Nat.ble n n && Nat.blt n 1000000 && Nat.blt (n * z.bytes) 1000000000 && Nat.beq (zbp z.zero) z.size) = true := by
   rw [hzero, hs, show Nat.ble n n = true from zhm.2 (yal n), zcz.2 hn]
   have : n * z.bytes < 1000000000 := by
    have := ycc (Nat.le_of_lt hn) hby
    omega
   rw [zcz.2 this]; rfl
  rw [e2, zar]; rfl
 ·rw [Tr.get_set, if_pos rfl, hzero, hrep, zav]; simp
 ·rw [List.getElem?_replicate] at hj
  split at hj
  ·cases hj
   rw [Tr.get_ofList, hzero, hrep, List.getElem?_replicate]; rename_i e; rw [if_pos e]; rfl
  ·cases hj
 ·rw [Tr.get_set, if_neg (by intro e; rw [e, hb] at hc; cases hc)]; exact hc
 ·rw [Tr.get_set, if_neg hc]
end
end Go.Am
namespace Go.Am
def val (B : Nat) : List Nat -> Nat
 | [] => 0
 | a :: l => a + B * val B l
def zau (B : Nat) (l : List Nat) : Prop := ∀ x ∈ l, x < B
def norm (l : List Nat) : Prop := ∀ h : l ≠ [], l.getLast h ≠ 0
theorem zeh (B : Nat) : ∀ (l m : List Nat), val B (l ++ m) = val B l + B ^ l.length * val B m
 | [], m => by simp [val]
 | a :: l, m => by
  simp only [List.cons_append, val, zeh B l m, yao, Nat.pow_succ]; rw [yan, <- yak, yai B (B ^ l.length)]
  omega
theorem zfw {B : Nat} (hB : 0 < B) : ∀ {l : List Nat}, zau B l -> val B l < B ^ l.length
 | [], _ => by simp [val]
 | a :: l, h => by
  have h1 := h a (yaz)
  have h2 := zfw hB (l := l) fun x hx => h x (yas _ hx)
  simp only [val, yao, Nat.pow_succ]; have h3 : B * (val B l + 1) <= B * B ^ l.length := yaw B h2
  rw [yan, yai B (B ^ l.length)] at h3
  omega
theorem zc8 (B : Nat) (l : List Nat) (n : Nat) : val B l = val B (l.take n) + B ^ (l.take n).length * val B (l.drop n) := by
 rw [<- zeh, List.take_append_drop]
theorem zd1 {B : Nat} {l : List Nat} (h : zau B l) (n : Nat) : zau B (l.take n) := fun x hx => h x (List.mem_of_mem_take hx)
theorem zsx {B : Nat} {l : List Nat} (h : zau B l) (n : Nat) : zau B (l.drop n) := fun x hx => h x (List.mem_of_mem_drop hx)
theorem zqs {B : Nat} {l m : List Nat} (h : zau B l) (k : zau B m) : zau B (l ++ m) := fun x hx => (List.mem_append.1 hx).elim (h x) (k x)
def zco : List Nat -> List Nat
 | [] => []
 | a :: l => if zco l = [] /\ a = 0 then [] else a :: zco l
theorem zc1 (B : Nat) : ∀ l : List Nat, val B (zco l) = val B l
 | [] => rfl
 | a :: l => by
  unfold zco; have ih := zc1 B l
  split
  ·rename_i h
   rw [h.1] at ih; have : val B l = 0 := by rw [<- ih]; rfl
   simp [val, this, h.2]
  ·simp [val, ih]
theorem zdk : ∀ l : List Nat, norm (zco l)
 | [] => fun h => (h rfl).elim
 | a :: l => by
  have ih := zdk l
  unfold zco; split
  ·exact fun h => (h rfl).elim
  ·rename_i h
   intro hne; by_cases hs : zco l = []
   ·have ha : a ≠ 0 := fun e => h ⟨hs, e⟩
    simp [hs, ha]
   ·rw [List.getLast_cons hs]; exact ih hs
theorem zcu {B : Nat} : ∀ {l : List Nat}, zau B l -> zau B (zco l)
 | [], h => h
 | a :: l, h => by
  have ih := zcu (l := l) fun x hx => h x (yas _ hx)
  unfold zco; split
  ·exact fun x hx => (by cases hx)
  ·exact fun x hx => (yat.1 hx).elim (fun e => e ▸ h a yaz) (ih x)
theorem zo6 : ∀ l : List Nat, (zco l).length <= l.length
 | [] => yal _
 | a :: l => by unfold zco; have := zo6 l; split <;> simp <;> omega
theorem zml : ∀ l : List Nat, zco (l ++ [0]) = zco l
 | [] => by simp [zco]
 | a :: l => by
  show (if zco (l ++ [0]) = [] /\ a = 0 then [] else a :: zco (l ++ [0])) = _
  rw [zml l]; rfl
theorem zho : ∀ {l : List Nat}, norm l -> zco l = l
 | [], _ => rfl
 | a :: l, h => by
  have hl : norm l := by
   intro hne; have := h (by simp)
   rw [List.getLast_cons hne] at this; exact this
  unfold zco; rw [zho hl]; split
  ·rename_i e
   have := h (by simp)
   obtain ⟨rfl, rfl⟩ := e
   simp at this
  ·rfl
theorem zh5 {B : Nat} (hB : 0 < B) {l : List Nat} (h : norm l) (h0 : val B l = 0) : l = [] := by
 have key : ∀ l : List Nat, val B l = 0 -> ∀ x ∈ l, x = 0 := by
  intro l; induction l with
  | nil => intro _ x hx; cases hx
  | cons a l ih =>
   intro h x hx; simp only [val] at h; have ha : a = 0 := by omega
   have hm : B * val B l = 0 := by omega
   have hl : val B l = 0 := by
    rcases Nat.mul_eq_zero.1 hm with e | e
    ·omega
    ·exact e
   rcases yat.1 hx with rfl | hx
   ·exact ha
   ·exact ih hl x hx
 rcases List.eq_nil_or_concat l with e | ⟨m, a, e⟩
 ·exact e
 ·exfalso
  subst e; have := h (by simp)
  simp at this; exact this (key _ h0 a (by simp))
theorem z4o {B : Nat} {l : List Nat} (h : norm l) (hne : l ≠ []) : B ^ (l.length - 1) <= val B l := by
 rcases List.eq_nil_or_concat l with e | ⟨m, a, e⟩
 ·exact absurd e hne
 ·rw [List.concat_eq_append] at e
  subst e; have := h (by simp)
  simp at this; rw [zeh]; simp only [yah, yao, yay, val]; have : 1 <= a + B * 0 := by omega
  calc B ^ (m.length + 1 - 1) = B ^ m.length * 1 := by simp
   _ <= B ^ m.length * (a + B * 0) := yaw _ this
   _ <= _ := Nat.le_add_left _ _
theorem z4n {B : Nat} (hB : 0 < B) : ∀ {l m : List Nat}, zau B l -> zau B m -> l.length = m.length -> val B l = val B m -> l = m
 | [], [], _, _, _, _ => rfl
 | a :: l, b :: m, h1, h2, hl, hv => by
  have ha := h1 a yaz
  have hb := h2 b yaz
  simp only [val] at hv; have e1 : a = b := by
   have := congrArg (· % B) hv
   simp only [Nat.add_mul_mod_self_left, Nat.mod_eq_of_lt ha, Nat.mod_eq_of_lt hb] at this; exact this
  subst e1; have e2 : val B l = val B m := by
   have : B * val B l = B * val B m := by omega
   exact Nat.eq_of_mul_eq_mul_left hB this
  rw [z4n hB (fun x hx => h1 x (yas _ hx)) (fun x hx => h2 x (yas _ hx)) (by simpa using hl) e2]
 | [], _ :: _, _, _, h, _ => by simp at h
 | _ :: _, [], _, _, h, _ => by simp at h
theorem zes {B : Nat} (hB : 1 < B) {l m : List Nat} (h1 : zau B l) (h3 : norm m) (hv : val B m <= val B l) : m.length <= l.length := by
 by_cases hm : m = []
 ·simp [hm]
 ·have a := z4o (B := B) h3 hm
  have b := zfw (by omega) h1
  have : B ^ (m.length - 1) < B ^ l.length := by omega
  have := (Nat.pow_lt_pow_iff_right hB).1 this
  omega
theorem zzbj {B : Nat} (hB : 1 < B) {l m : List Nat} (h1 : zau B l) (h2 : zau B m) (h3 : norm l) (h4 : norm m) (hv : val B l = val B m) : l = m := by
 have a := zes hB h1 h4 (by omega)
 have b := zes hB h2 h3 (by omega)
 exact z4n (by omega) h1 h2 (by omega) hv
def zuj (a b : List Nat) : Int := if a.length ≠ b.length then (if a.length < b.length then -1 else 1) else go a b
where go : List Nat -> List Nat -> Int
 | a :: l, b :: m => if go l m ≠ 0 then go l m else if a < b then -1 else if b < a then 1 else 0
 | _, _ => 0
theorem z87 {B : Nat} : ∀ {a b : List Nat}, zau B a -> zau B b -> a.length = b.length -> (zuj.go a b < 0 ↔ val B a < val B b) /\ (zuj.go a b = 0 ↔ val B a = val B b)
 | [], [], _, _, _ => by simp [zuj.go, val]
 | a :: l, b :: m, h1, h2, hl => by
  have ha := h1 a yaz
  have hb := h2 b yaz
  obtain ⟨i1, i2⟩ := z87 (a := l) (b := m) (fun x hx => h1 x (yas _ hx)) (fun x hx => h2 x (yas _ hx)) (by simpa using hl)
  have lt_of : ∀ {x y : Nat}, x < y -> ∀ u v, u < B -> u + B * x < v + B * y := by
   intro x y h u v hu; have : B * (x + 1) <= B * y := yaw B h
   rw [yan] at this; omega
  unfold zuj.go; simp only [val]; by_cases h0 : zuj.go l m = 0
  ·have e := i2.1 h0
   rw [if_neg (by simpa using h0), e]
   by_cases c1 : a < b
   ·rw [if_pos c1]; constructor <;> constructor <;> intro h <;> omega
   ·rw [if_neg c1]
    by_cases c2 : b < a
    ·rw [if_pos c2]; constructor <;> constructor <;> intro h <;> omega
    ·rw [if_neg c2]; constructor <;> constructor <;> intro h <;> omega
  ·rw [if_pos h0]
   constructor
   ·rw [i1]
    constructor
    ·intro h; exact lt_of h a b ha
    ·intro h
     rcases Nat.lt_trichotomy (val B l) (val B m) with g | g | g
     ·exact g
     ·exact absurd (i2.2 g) h0
     ·have := lt_of g b a hb; omega
   ·constructor
    ·intro h; exact absurd h h0
    ·intro h
     rcases Nat.lt_trichotomy (val B l) (val B m) with g | g | g
     ·have := lt_of g a b ha; omega
     ·exact i2.2 g
     ·have := lt_of g b a hb; omega
 | [], _ :: _, _, _, h => by simp at h
 | _ :: _, [], _, _, h => by simp at h
theorem z86 {B : Nat} (hB : 1 < B) {a b : List Nat} (h1 : zau B a) (h2 : zau B b) (h3 : norm a) (h4 : norm b) : zuj a b < 0 ↔ val B a < val B b := by
 unfold zuj; by_cases hl : a.length = b.length
 ·rw [if_neg (by simpa using hl)]; exact (z87 h1 h2 hl).1
 ·rw [if_pos hl]
  by_cases hlt : a.length < b.length
  ·rw [if_pos hlt]
   refine ⟨fun _ => ?_, fun _ => by omega⟩
   rcases Nat.lt_or_ge (val B a) (val B b) with g | g
   ·exact g
   ·have := zes hB h1 h4 g; omega
  ·rw [if_neg hlt]
   refine ⟨fun h => by omega, fun h => ?_⟩
   have := zes hB h2 h3 (by omega); omega
end Go.Am
namespace Go.Am
open Go Go.RowKit
theorem zax {n : Int} (h1 : 0 <= n) (h2 : n < 18446744073709551616) : zai .u64 n = n := by
 rw [zcx]; simp only [IntKind.wrap, IntKind.bits, IntKind.signed]; simp; omega
theorem zfz {n : Int} (h1 : 0 <= n) (h2 : n < 4294967296) : zai .u32 n = n := by
 rw [zcx]; simp only [IntKind.wrap, IntKind.bits, IntKind.signed]; simp; omega
theorem z98 {n : Int} (h1 : 0 <= n) (h2 : n < 65536) : zai .u16 n = n := by
 rw [zcx]; simp only [IntKind.wrap, IntKind.bits, IntKind.signed]; simp; omega
theorem zzes {n : Int} (h1 : 0 <= n) (h2 : n < 256) : zai .u8 n = n := by
 rw [zcx]; simp only [IntKind.wrap, IntKind.bits, IntKind.signed]; simp; omega
theorem zfl (n : Int) : zai .u64 n = n % 18446744073709551616 := by
 rw [zcx]; simp only [IntKind.wrap, IntKind.bits, IntKind.signed]; simp
theorem zc0 (n : Int) : zai .u32 n = n % 4294967296 := by
 rw [zcx]; simp only [IntKind.wrap, IntKind.bits, IntKind.signed]; simp
theorem zu1 (n : Int) : zai .u16 n = n % 65536 := by
 rw [zcx]; simp only [IntKind.wrap, IntKind.bits, IntKind.signed]; simp
theorem zt6 {k : IntKind} {x y : Nat} : zzb3 k (x : Int) (y : Int) = zfc Nat.land k (x : Int) (y : Int) := rfl
theorem zdj {f : Nat -> Nat -> Nat} {k : IntKind} {x y : Nat} (h1 : x < kHi k) (h2 : y < kHi k) : zfc f k (x : Int) (y : Int) = some (.int k (f x y : Nat)) := by
 unfold zfc; have e1 : ziv (x : Int) = some x := rfl
 have e2 : ziv (y : Int) = some y := rfl
 rw [e1, zad, e2, zad, zcz.2 h1, zcz.2 h2]; rfl
theorem zt4 {k : IntKind} {x y : Nat} (h0 : 0 < y) (hw : zai k ((x / y : Nat) : Int) = ((x / y : Nat) : Int)) : zzb2 k (x : Int) (y : Int) = some (.int k ((x / y : Nat) : Int)) := by
 unfold zzb2; have : iEq (y : Int) 0 = false := by
  cases hq : iEq (y : Int) 0 with
  | false => rfl
  | true => have := (zhi _ _).1 hq; omega
 rw [this, cond_false, Int.tdiv_eq_ediv_of_nonneg (by omega)]
 rw [<- Int.natCast_ediv, hw]
theorem zoo {k : IntKind} {x y : Nat} (h0 : 0 < y) : zzb1 k (x : Int) (y : Int) = some (.int k ((x % y : Nat) : Int)) := by
 unfold zzb1; have : iEq (y : Int) 0 = false := by
  cases hq : iEq (y : Int) 0 with
  | false => rfl
  | true => have := (zhi _ _).1 hq; omega
 rw [this, cond_false, Int.tmod_eq_emod_of_nonneg (by omega), <- Int.natCast_emod]
theorem zew {a b : Int} : (iEq a b = true) ↔ a = b := zhi a b
theorem ztu {a b : Int} : ((!iEq a b) = true) ↔ a ≠ b := by rw [ybq, <- Bool.not_eq_true, zew]
theorem ztv {b : Bool} : ((!b) = true) ↔ b = false := by simp
theorem zrw {a b n : Nat} (h : b < 2 ^ n) : Nat.lor (a * 2 ^ n) b = a * 2 ^ n + b := by
 show a * 2 ^ n ||| b = _
 rw [<- Nat.shiftLeft_eq, <- Nat.shiftLeft_add_eq_or_of_lt h, Nat.shiftLeft_eq]
theorem or_low {a b n : Nat} (h : b < 2 ^ n) (ha : a % 2 ^ n = 0) : Nat.lor a b = a + b := by
 obtain ⟨c, hc⟩ := Nat.dvd_of_mod_eq_zero ha
 subst hc; rw [yai]; exact zrw h
theorem RSl.idx {t : Tr zam} {C : Ctx} {T el : Nat} (h : zxl C T el 1 false) {k : IntKind} {l : List Nat} {v : zab} (hr : RSl t 1 (zas k l) v) {i x : Nat} (hi : l[i]? = some x) :
  ∃ b off, zaj C T v (.int .i64 (i : Int)) = some (.ptr b off) /\ za2 C el ⟨0, t⟩ (.ptr b off) = some (.int k (x : Int)) := by
 obtain ⟨b, off, cs, h1, h2, _, _, h5⟩ := zxl.at h (fun _ => rfl) hr (z82 hi)
 rw [z9t] at h5; subst h5; exact ⟨b, off, h1, h2⟩
theorem zex (x : Nat) (n : Nat) : Int.fdiv (x : Int) (n : Int) = ((x / n : Nat) : Int) := by
 rw [Int.fdiv_eq_ediv_of_nonneg _ (by omega)]; exact (Int.natCast_ediv x n).symm
theorem getElem?_of_lt {l : List Nat} {i : Nat} (h : i < l.length) : ∃ x, l[i]? = some x := ⟨l[i], yae h⟩
theorem zbi {B : Nat} {l : List Nat} (h : zau B l) {i x : Nat} (hi : l[i]? = some x) : x < B := h x (ybw hi)
theorem zlm {l : List Nat} (h : l ≠ []) : ∃ m x, l = m ++ [x] := by
 rcases List.eq_nil_or_concat l with e | ⟨m, a, e⟩
 ·exact absurd e h
 ·exact ⟨m, a, by rw [e, List.concat_eq_append]⟩
end Go.Am
namespace Go.Proofs
open Go Go.Am
variable [zc6]
variable {t : Tr zam}
theorem z42 : ∀ (n : Nat) (l : List Nat) (v : zab), l.length = n -> n < 1125899906842624 -> RSl t 1 (zas .u32 l) v -> ∃ v', jp 174 2 [v] t (fun u m => u = v' /\ m = t) /\ RSl t 1 (zas .u32 (zco l)) v' := by
 intro n; induction n with
 | zero =>
  intro l v hl _ hv; have : l = [] := ybd.1 hl
  subst this; refine ⟨v, z7y _ ?_, hv⟩
  simp only [z0i, wpT, hv.len, zaa, zag, zat, za7]; rw [if_neg (by simp)]
  simp
 | succ n ih =>
  intro l v hl hn hv; obtain ⟨m, x, rfl⟩ := zlm (l := l) (by intro e; subst e; simp at hl)
  have hm : m.length = n := by simpa using hl
  have hx : (m ++ [x])[m.length]? = some x := by simp
  obtain ⟨b, off, g1, g2⟩ := hv.idx zdl hx
  obtain ⟨u, g3, g4⟩ := zxl.front zdl hv (k := m.length) (by simp [zas])
  rw [zso] at g4; simp only [List.take_left'] at g4; have e1 : (((m ++ [x]).length : Nat) : Int) - 1 = (m.length : Int) := by simp
  by_cases hx0 : x = 0
  ·subst hx0
   obtain ⟨w, h1, h2⟩ := ih m u hm (by omega) g4
   refine ⟨w, z7y _ ?_, by rw [zml]; exact h2⟩
   simp (disch := omega) only [z0i, wpT, hv.len, zaa, zag, zat, za7, zew, wrap_i64, e1, g1, g2, g3]
   rw [if_pos (by simp), if_pos (by simp)]
   exact h1
  ·refine ⟨v, z7y _ ?_, ?_⟩
   ·simp (disch := omega) only [z0i, wpT, hv.len, zaa, zag, zat, za7, zew, wrap_i64, e1, g1, g2, g3]
    rw [if_pos (by simp), if_neg (by simpa using hx0)]
    simp
   ·rw [zho]
    ·exact hv
    ·intro _; simpa using hx0
theorem zkm {l : List Nat} {v : zab} (hl : l.length < 1125899906842624) (hv : RSl t 1 (zas .u32 l) v) : ∃ v', pvC C13 F 174 [v] t = some v' /\ RSl t 1 (zas .u32 (zco l)) v' := by
 obtain ⟨v', h1, h2⟩ := z42 _ l v rfl hl hv
 exact ⟨v', zbd.2 (w174 _ h1), h2⟩
theorem zzcr {a b : List Nat} {u v : zab} (hu : RSl t 1 (zas .u32 a) u) (hv : RSl t 1 (zas .u32 b) v) (hl : a.length = b.length) : ∀ (n : Nat), n <= a.length -> n < 1125899906842624 -> jp 203 2 [u, v, .int .i64 ((n : Int) - 1)] t (fun w m => w = .int .i64 (zuj.go (a.take n) (b.take n)) /\ m = t) := by
 intro n; induction n with
 | zero =>
  intro _ _; refine zzd5 _ _ _ ?_
  simp only [z5o, wpT, zdi]; rw [if_neg (by omega)]
  simp [zuj.go]
 | succ n ih =>
  intro hn hn2; obtain ⟨x, hx⟩ := getElem?_of_lt (l := a) (i := n) (by omega)
  obtain ⟨y, hy⟩ := getElem?_of_lt (l := b) (i := n) (by omega)
  obtain ⟨c, off, g1, g2⟩ := hu.idx zdl hx
  obtain ⟨d, off', g3, g4⟩ := hv.idx zdl hy
  have e1 : (((n + 1 : Nat) : Int) - 1) = (n : Int) := by omega
  have key : ∀ (a b : List Nat) (x y : Nat), a.length = b.length -> zuj.go (a ++ [x]) (b ++ [y]) = if x < y then -1 else if y < x then 1 else zuj.go a b := by
   intro a; induction a with
   | nil =>
    intro b x y h; have : b = [] := ybd.1 (by simpa using h.symm)
    subst this; simp [zuj.go]
   | cons p a ih =>
    intro b x y h
    cases b with
    | nil => simp at h
    | cons q b =>
     simp only [List.cons_append, zuj.go]; rw [ih b x y (by simpa using h)]
     by_cases c1 : x < y
     ·simp [c1]
     ·by_cases c2 : y < x
      ·simp [c1, c2]
      ·simp [c1, c2]
  have e2 : zuj.go (a.take (n + 1)) (b.take (n + 1)) = if x < y then -1 else if y < x then 1 else zuj.go (a.take n) (b.take n) := by
   rw [ych, ych, hx, hy]; exact key _ _ _ _ (by simp; omega)
  rw [e1, e2]; refine zzd5 _ _ _ ?_
  simp (disch := omega) only [z5o, wpT, zaa, zag, za7, zdi, ztu, g1, g2, g3, g4, wrap_i64]
  rw [if_pos (by omega)]
  by_cases c0 : x = y
  ·subst c0
   rw [if_neg (by simp), if_neg (by omega), if_neg (by omega)]
   exact ih (by omega) (by omega)
  ·rw [if_pos (by omega)]
   by_cases c1 : x < y
   ·rw [if_pos (by omega), if_pos c1]; simp
   ·rw [if_neg (by omega), if_neg c1, if_pos (by omega)]; simp
theorem zzeh {a b : List Nat} {u v : zab} (ha : a.length < 1125899906842624) (hu : RSl t 1 (zas .u32 a) u) (hv : RSl t 1 (zas .u32 b) v) : pvC C13 F 203 [u, v] t = some (.int .i64 (zuj a b)) := by
 refine zbd.2 (w203 _ _ ?_)
 simp (disch := omega) only [t203, wpT, hu.len, hv.len, zaa, zag, zat, za7, ztu, wrap_i64]
 unfold zuj; by_cases hl : a.length = b.length
 ·rw [if_neg (by omega), if_neg (by omega)]
  have := zzcr hu hv hl a.length (yal _) ha
  rw [List.take_length, hl, List.take_length] at this; rw [hl]; exact this
 ·rw [if_pos (by omega), if_pos hl]
  by_cases hlt : a.length < b.length
  ·rw [if_pos (by omega), if_pos hlt]; simp
  ·rw [if_neg (by omega), if_neg hlt]; simp
def zd2 (neg : Bool) (l : List Nat) : Bool := if l = [] then !neg else decide (l.length <= 1024) && decide (l.getLast? ≠ some 0)
theorem zof {neg : Bool} {l : List Nat} {v : zab} (hl : l.length < 1125899906842624) (hv : RSl t 1 (zas .u16 l) v) : pvC C13 F 148 [.agg [.bool neg, v]] t = some (.bool (zd2 neg l)) := by
 refine zbd.2 (w148 _ _ ?_)
 unfold zd2; by_cases h0 : l = []
 ·subst h0
  simp only [t148, wpT, hv.len, zaa, zag, zat, zew]; simp
 ·obtain ⟨m, x, rfl⟩ := zlm h0
  have hx : (m ++ [x])[m.length]? = some x := by simp
  obtain ⟨b, off, g1, g2⟩ := hv.idx sl22 hx
  have e1 : (((m ++ [x]).length : Nat) : Int) - 1 = (m.length : Int) := by simp
  have hlm : m.length < 1125899906842624 := by simp at hl; omega
  simp (disch := omega) only [t148, wpT, hv.len, zaa, zag, zat, zew, zdi, wrap_i64, e1, g1, g2]
  rw [if_neg (by simp; omega), if_neg h0]
  by_cases h1 : (m ++ [x]).length <= 1024
  ·rw [if_pos (by omega)]
   simp only [h1, decide_true, ybo]; by_cases hx0 : x = 0
   ·subst hx0; simp [zkd]
   ·have : iEq (x : Int) 0 = false := by
     cases hq : iEq (x : Int) 0 with
     | false => rfl
     | true => have := (zhi _ _).1 hq; omega
    simp [this, hx0]
  ·rw [if_neg (by omega), decide_eq_false h1]
   simp
theorem zt0 {neg : Bool} {l : List Nat} {v : zab} (hv : RSl t 1 (zas .u16 l) v) : pvC C13 F 149 [.agg [.bool neg, v]] t = some (.bool (!neg && decide (l = [1]))) := by
 refine zbd.2 (w149 _ _ ?_)
 cases neg with
 | true => simp [t149, wpT]
 | false =>
  simp only [t149, wpT, hv.len, zaa, zag, zat, zew]; rw [if_pos (by rfl)]
  by_cases h1 : l.length = 1
  ·obtain ⟨x, rfl⟩ : ∃ x, l = [x] := by
    cases l with
    | nil => simp at h1
    | cons x r => cases r with
     | nil => exact ⟨x, rfl⟩
     | cons y r => simp at h1
   obtain ⟨b, off, g1, g2⟩ := hv.idx sl22 (i := 0) (x := x) (by simp)
   simp only [Int.natCast_zero] at g1; rw [if_pos (by simp)]
   simp only [g1, g2, zaa, zag]; by_cases hx : x = 1
   ·subst hx; simp [zkd]
   ·have : iEq (x : Int) 1 = false := by
     cases hq : iEq (x : Int) 1 with
     | false => rfl
     | true => have := (zhi _ _).1 hq; omega
    simp [this, hx]
  ·rw [if_neg (by omega)]
   have : l ≠ [1] := by intro e; subst e; simp at h1
   simp [this]
end Go.Proofs
namespace Go.Am
def zdh : List Nat -> List Nat
 | [] => []
 | [a] => [a]
 | a :: b :: l => (a + 65536 * b) :: zdh l
theorem zdg : ∀ l : List Nat, (zdh l).length = (l.length + 1) / 2
 | [] => rfl
 | [a] => by simp [zdh]
 | a :: b :: l => by simp [zdh, zdg l]; omega
theorem zo1 : ∀ l : List Nat, val 4294967296 (zdh l) = val 65536 l
 | [] => rfl
 | [a] => by simp [zdh, val]
 | a :: b :: l => by simp only [zdh, val, zo1 l]; omega
theorem zgs : ∀ {l : List Nat}, zau 65536 l -> zau 4294967296 (zdh l)
 | [], _ => fun x hx => (by cases hx)
 | [a], h => fun x hx => by
  have := h a (by simp)
  have e : x = a := by simpa [zdh] using hx
  omega
 | a :: b :: l, h => fun x hx => by
  have h1 := h a (by simp)
  have h2 := h b (by simp)
  rcases yat.1 hx with rfl | hx
  ·omega
  ·exact zgs (l := l) (fun y hy => h y (by simp [hy])) x hx
theorem zjm : ∀ {l : List Nat}, norm l -> norm (zdh l)
 | [], _ => fun h => (h rfl).elim
 | [a], h => by
  intro _; have := h (by simp)
  simpa [zdh] using this
 | [a, b], h => by
  intro _; have := h (by simp)
  simp at this; simp [zdh]; omega
 | a :: b :: c :: l, h => by
  intro _; have hn : norm (c :: l) := by
   intro hne; have := h (by simp)
   rw [List.getLast_cons (by simp), List.getLast_cons hne] at this
   exact this
  have hne : zdh (c :: l) ≠ [] := by
   intro e; have := congrArg List.length e
   rw [zdg] at this; simp at this; omega
  have := zjm (l := c :: l) hn hne
  show ((a + 65536 * b) :: zdh (c :: l)).getLast _ ≠ 0
  rw [List.getLast_cons hne]; exact this
theorem zmq : ∀ (l : List Nat) (x : Nat), l.length % 2 = 0 -> zdh (l ++ [x]) = zdh l ++ [x]
 | [], x, _ => rfl
 | [a], x, h => by simp at h
 | a :: b :: l, x, h => by
  show (a + 65536 * b) :: zdh (l ++ [x]) = (a + 65536 * b) :: (zdh l ++ [x])
  rw [zmq l x (by simp at h; omega)]
theorem zv0 : ∀ (l : List Nat) (a x : Nat), l.length % 2 = 0 -> zdh (l ++ [a, x]) = zdh l ++ [a + 65536 * x]
 | [], a, x, _ => rfl
 | [b], a, x, h => by simp at h
 | c :: b :: l, a, x, h => by
  show (c + 65536 * b) :: zdh (l ++ [a, x]) = (c + 65536 * b) :: (zdh l ++ [a + 65536 * x])
  rw [zv0 l a x (by simp at h; omega)]
def zbn : List Nat -> List Nat
 | [] => []
 | w :: l => w % 65536 :: w / 65536 :: zbn l
theorem ze4 : ∀ l : List Nat, (zbn l).length = 2 * l.length
 | [] => rfl
 | w :: l => by simp [zbn, ze4 l]; omega
theorem zo0 : ∀ l : List Nat, val 65536 (zbn l) = val 4294967296 l
 | [] => rfl
 | w :: l => by
  simp only [zbn, val, zo0 l]; have := ybi w 65536
  omega
theorem zmd : ∀ {l : List Nat}, zau 4294967296 l -> zau 65536 (zbn l)
 | [], _ => fun x hx => (by cases hx)
 | w :: l, h => fun x hx => by
  have h1 := h w (by simp)
  rcases yat.1 hx with rfl | hx
  ·exact ybz _ (by decide)
  ·rcases yat.1 hx with rfl | hx
   ·exact ybv (by omega)
   ·exact zmd (l := l) (fun y hy => h y (by simp [hy])) x hx
theorem zgf : ∀ (l : List Nat) (w : Nat), zbn (l ++ [w]) = zbn l ++ [w % 65536, w / 65536]
 | [], w => rfl
 | a :: l, w => by simp [zbn, zgf l w]
theorem zk8 {l : List Nat} {w : Nat} (hw : w ≠ 0) : zco (zbn (l ++ [w])) = if w / 65536 = 0 then zbn l ++ [w % 65536] else zbn (l ++ [w]) := by
 rw [zgf]; split
 ·rename_i h
  rw [h, show zbn l ++ [w % 65536, 0] = (zbn l ++ [w % 65536]) ++ [0] by simp, zml]
  refine zho fun _ => ?_
  simp; omega
 ·rename_i h
  refine zho fun _ => ?_
  simpa using h
end Go.Am
namespace Go.Proofs
open Go Go.Am
variable [zc6]
variable {t : Tr zam}
theorem set_append_right {l m : List Nat} {i x : Nat} (h : l.length = i) : (l ++ m).set i x = l ++ m.set 0 x := by
 rw [List.set_append_right _ _ (by omega)]; congr 1; congr 1; omega
theorem z6m {l : List Nat} {v : zab} {b : Nat} {Q : zay} (hv : RSl t 1 (zas .u16 l) v) (hl : l.length < 1000000) (hlt : zau 65536 l) (hbase : C13.base <= b) (hb : t.get b = none)
  (hQ : ∀ t' v', TLe t t' -> RSl t' 1 (zas .u32 (zdh l)) v' -> Q v' t') : ∀ (k i : Nat) (t' : Tr zam), i + k = l.length -> TLe t t' -> Own t' b .u32 (zdh (l.take i) ++ List.replicate ((l.length + 1) / 2 - (i + 1) / 2) 0) →
  jp 151 2 [.slice b 0 ((l.length + 1) / 2) ((l.length + 1) / 2), v, .int .i64 l.length, .int .i64 i] t' Q := by
 intro k; induction k with
 | zero =>
  intro i t' hi ht ho; refine zzea _ _ _ _ ?_
  simp only [z5u, wpT, za7]; rw [if_neg (by omega)]
  rw [ybb (by omega), show (l.length + 1) / 2 - (i + 1) / 2 = 0 by omega, List.replicate_zero, ybe] at ho
  refine hQ _ _ ht ?_
  have := ho.all (yal _)
  rw [zdg] at this; exact this
 | succ k ih =>
  intro i t' hi ht ho; obtain ⟨x, hx⟩ := getElem?_of_lt (l := l) (i := i) (by omega)
  have hxlt : x < 65536 := zbi hlt hx
  obtain ⟨c, off, g1, g2⟩ := (hv.mono ht).idx sl22 hx
  have htake : l.take (i + 1) = l.take i ++ [x] := by rw [ych, hx]; rfl
  have hlen : (l.take i).length = i := by simp; omega
  obtain ⟨y, hy, hnew⟩ : ∃ y, (zdh (l.take i) ++ List.replicate ((l.length + 1) / 2 - (i + 1) / 2) 0)[i / 2]? = some y /\ y < 4294967296 /\ Nat.lor y (x * 2 ^ (16 * (i % 2))) < 4294967296 ∧
    (zdh (l.take i) ++ List.replicate ((l.length + 1) / 2 - (i + 1) / 2) 0).set (i / 2) (Nat.lor y (x * 2 ^ (16 * (i % 2)))) = zdh (l.take (i + 1)) ++ List.replicate ((l.length + 1) / 2 - (i + 1 + 1) / 2) 0 := by
   rcases Nat.mod_two_eq_zero_or_one i with he | ho1
   ·have hp : (zdh (l.take i)).length = i / 2 := by rw [zdg, hlen]; omega
    refine ⟨0, ?_, by decide, ?_, ?_⟩
    ·rw [yaq (by omega), hp, Nat.sub_self, List.getElem?_replicate, if_pos (by omega)]
    ·rw [he]; simp; omega
    ·rw [set_append_right hp, he, htake, zmq _ _ (by rw [hlen]; exact he)]
     have : Nat.lor 0 (x * 2 ^ (16 * 0)) = x := by show 0 ||| _ = x; simp
     rw [this]; obtain ⟨r, hr⟩ : ∃ r, (l.length + 1) / 2 - (i + 1) / 2 = r + 1 := ⟨(l.length + 1) / 2 - (i + 1) / 2 - 1, by omega⟩
     rw [hr, List.replicate_succ, List.set_cons_zero, show (l.length + 1) / 2 - (i + 1 + 1) / 2 = r by omega]
     simp
   ·obtain ⟨p, a, hpa⟩ := zlm (l := l.take i) (by intro e; rw [e] at hlen; simp at hlen; omega)
    have hpl : p.length = i - 1 := by rw [hpa] at hlen; simp at hlen; omega
    have hpe : p.length % 2 = 0 := by omega
    have ha : a < 65536 := hlt a (List.mem_of_mem_take (by rw [hpa]; simp : a ∈ l.take i))
    have hp : (zdh p).length = i / 2 := by rw [zdg, hpl]; omega
    rw [hpa, zmq _ _ hpe]; have hlor : Nat.lor a (x * 2 ^ (16 * 1)) = a + 65536 * x := by
     show a ||| x * 2 ^ (16 * 1) = _
     rw [Nat.or_comm]; have := zrw (a := x) (b := a) (n := 16) (by omega)
     show Nat.lor (x * 2 ^ 16) a = _
     rw [this]; omega
    refine ⟨a, ?_, by omega, ?_, ?_⟩
    ·rw [yba, yaq (by omega), hp, Nat.sub_self]; rfl
    ·rw [ho1, hlor]; omega
    ·rw [ho1, hlor, yba, set_append_right hp, htake, hpa, yba]
     rw [show [a] ++ [x] = [a, x] from rfl, zv0 _ _ _ hpe, yba]; rw [show (l.length + 1) / 2 - (i + 1 + 1) / 2 = (l.length + 1) / 2 - (i + 1) / 2 by omega]
     rfl
  obtain ⟨hy1, hy2, hy3⟩ := hnew
  have hwlen : (zdh (l.take i) ++ List.replicate ((l.length + 1) / 2 - (i + 1) / 2) 0).length = (l.length + 1) / 2 := by
   rw [yah, zdg, hlen, List.length_replicate]; omega
  have g3 : zaj C13 200 (.slice b 0 ((l.length + 1) / 2) ((l.length + 1) / 2)) (.int .i64 ((i / 2 : Nat) : Int)) = some (.ptr b (0 + i / 2 * 1)) := zdf zdl (by omega)
  rw [show 0 + i / 2 * 1 = i / 2 by omega] at g3; have g4 := ho.load hy zd5 rfl
  obtain ⟨t2, g5, g6, g7⟩ := ho.store (C := C13) hbase (j := i / 2) (by omega) (Nat.lor y (x * 2 ^ (16 * (i % 2)))) zd5 rfl
  rw [hy3] at g6; refine zzea _ _ _ _ ?_
  have e1 : Int.tdiv (i : Int) 2 = ((i / 2 : Nat) : Int) := by rw [Int.tdiv_eq_ediv_of_nonneg (by omega)]; rfl
  have e2 : Int.tmod (i : Int) 2 = ((i % 2 : Nat) : Int) := by rw [Int.tmod_eq_emod_of_nonneg (by omega)]; rfl
  have hm := ybz i (show 0 < 2 by decide)
  simp (disch := omega) only [z5u, wpT, za7, g1, g2, zaa, zag, wrap_i64, zfz, e1, e2, g3, g4]
  rw [if_pos (by omega)]
  have e3 : z76 .u32 (x : Int) (16 * ((i % 2 : Nat) : Int)) = some (.int .u32 ((x * 2 ^ (16 * (i % 2)) : Nat) : Int)) := by
   rcases Nat.mod_two_eq_zero_or_one i with h | h <;> rw [h]
   ·simp [z76, zpe, ziv]
    rw [zfz (by omega) (by omega)]
   ·have : z76 .u32 (x : Int) (16 * ((1 : Nat) : Int)) = some (.int .u32 (zai .u32 ((x : Int) * 65536))) := rfl
    rw [this, zfz (by omega) (by omega)]
    simp
  rw [e3]; have hb2 : x * 2 ^ (16 * (i % 2)) < 4294967296 := by
   rcases Nat.mod_two_eq_zero_or_one i with h | h <;> rw [h] <;> omega
  simp only [zaa, zag]; rw [zdj (show y < kHi .u32 from hy1) (show x * 2 ^ (16 * (i % 2)) < kHi .u32 from hb2)]
  simp only [zaa, zag]; intro d _ _; rw [g5]; simp only [zaa]; have := ih (i + 1) t2 (by omega) (ht.off hb g7) g6
  rw [show ((i + 1 : Nat) : Int) = (i : Int) + 1 by omega] at this
  exact this
theorem zyn {l : List Nat} {v : zab} {Q : zay} (hv : RSl t 1 (zas .u16 l) v) (hl : l.length < 1000000) (hlt : zau 65536 l)
  (hQ : ∀ t' v', TLe t t' -> RSl t' 1 (zas .u32 (zdh l)) v' -> Q v' t') : Wc C13 F 151 [v] t Q := by
 refine w151 _ ?_
 have e1 : Int.tdiv ((l.length : Int) + 1) 2 = (((l.length + 1) / 2 : Nat) : Int) := by rw [Int.tdiv_eq_ediv_of_nonneg (by omega)]; rfl
 simp (disch := omega) only [t151, wpT, hv.len, zaa, zag, zat, wrap_i64, e1]
 intro b hb hbase; obtain ⟨t', g1, g2, g3, _⟩ := zjn (C := C13) (k := .u32) zk4 rfl zd5 rfl rfl (by decide) (n := (l.length + 1) / 2) (by omega) hb
 rw [g1]; simp only [zaa]; exact z6m hv hl hlt hbase hb hQ l.length 0 t' (by omega) g3 (by simpa [zdh] using g2)
end Go.Proofs
namespace Go.Proofs
open Go Go.Am
variable [zc6]
variable {t : Tr zam}
theorem z45 {n : Nat} (h : n < 4294967296) : n / 2147483648 = if n.testBit 31 then 1 else 0 := by
 have : n.testBit 31 = decide (n / 2 ^ 31 % 2 = 1) := Nat.testBit_eq_decide_div_mod_eq
 rw [this]; have h2 : n / 2 ^ 31 < 2 := by omega
 by_cases c : n / 2 ^ 31 % 2 = 1
 ·rw [decide_eq_true c]; simp; omega
 ·rw [decide_eq_false c]; simp; omega
theorem z44 {n : Nat} (h : n < 4294967296) : n.testBit 31 = decide (2147483648 <= n) := by
 have := z45 h
 by_cases c : 2147483648 <= n
 ·rw [decide_eq_true c]
  cases hb : n.testBit 31 with
  | true => rfl
  | false => rw [hb] at this; simp at this; omega
 ·rw [decide_eq_false c]
  cases hb : n.testBit 31 with
  | false => rfl
  | true => rw [hb] at this; simp at this; omega
theorem zvb {x : Nat} (h : x < 4294967296) : zx1 (.int .u32 (x : Int)) = some (.int .u32 (Nat.xor 4294967295 x : Nat)) := by
 unfold zx1; simp only [zab.asIntK, zad]; have : Nat.beq (kLo .u32) 0 = true := rfl
 rw [this, zar]; exact zdj (k := .u32) (x := 4294967295) (show 4294967295 < kHi .u32 by decide) (show x < kHi .u32 from h)
theorem zzam {x y b : Nat} (hx : x < 4294967296) (hy : y < 4294967296) (hb : b < 2) :
  pvC C13 F 217 [.int .u32 x, .int .u32 y, .int .u32 b] t = some (.tup [.int .u32 (((x + 8589934592 - y - b) % 4294967296 : Nat) : Int), .int .u32 (((if x < y + b then 1 else 0) : Nat) : Int)]) := by
 refine zbd.2 (w217 _ _ _ ?_)
 obtain ⟨d, hd⟩ : ∃ d, d = (x + 8589934592 - y - b) % 4294967296 := ⟨_, rfl⟩
 have hdl : d < 4294967296 := by rw [hd]; exact ybz _ (by decide)
 have e1 : zai .u32 (zai .u32 ((x : Int) - y) - b) = (d : Int) := by
  rw [zc0, zc0, hd]; omega
 have hn1 : Nat.xor 4294967295 x < 4294967296 := Nat.xor_lt_two_pow (n := 32) (by decide) hx
 have hn2 : Nat.xor x y < 4294967296 := Nat.xor_lt_two_pow (n := 32) hx hy
 have hn3 : Nat.xor 4294967295 (Nat.xor x y) < 4294967296 := Nat.xor_lt_two_pow (n := 32) (by decide) hn2
 have hn4 : Nat.land (Nat.xor 4294967295 x) y < 4294967296 := Nat.lt_of_le_of_lt Nat.and_le_left hn1
 have hn5 : Nat.land (Nat.xor 4294967295 (Nat.xor x y)) d < 4294967296 := Nat.lt_of_le_of_lt Nat.and_le_left hn3
 have hn6 : Nat.lor (Nat.land (Nat.xor 4294967295 x) y) (Nat.land (Nat.xor 4294967295 (Nat.xor x y)) d) < 4294967296 := Nat.or_lt_two_pow (n := 32) hn4 hn5
 simp only [t217, wpT, e1]; rw [zvb hx]; simp only [zaa, zag]; rw [zt6, zdj (k := .u32) hn1 hy]
 simp only [zaa, zag]; rw [zdj (k := .u32) hx hy]
 simp only [zaa, zag]; rw [zvb hn2]; simp only [zaa, zag]; rw [zt6, zdj (k := .u32) hn3 hdl]
 simp only [zaa, zag]; rw [zdj (k := .u32) hn4 hn5]
 simp only [zaa, zag]; have e2 : Int.fdiv ((Nat.lor (Nat.land (Nat.xor 4294967295 x) y) (Nat.land (Nat.xor 4294967295 (Nat.xor x y)) d) : Nat) : Int) 2147483648 = (((if x < y + b then 1 else 0) : Nat) : Int) := by
  rw [show (2147483648 : Int) = ((2147483648 : Nat) : Int) from rfl, zex, z45 hn6]
  congr 1
  have tb : (Nat.lor (Nat.land (Nat.xor 4294967295 x) y) (Nat.land (Nat.xor 4294967295 (Nat.xor x y)) d)).testBit 31 = decide (x < y + b) := by
   show ((4294967295 ^^^ x) &&& y ||| (4294967295 ^^^ (x ^^^ y)) &&& d).testBit 31 = _
   rw [Nat.testBit_or, Nat.testBit_and, Nat.testBit_and, Nat.testBit_xor, Nat.testBit_xor, Nat.testBit_xor, z44 hx, z44 hy, z44 hdl]; have : (4294967295 : Nat).testBit 31 = true := by decide
   rw [this]; by_cases c1 : 2147483648 <= x <;> by_cases c2 : 2147483648 <= y <;> by_cases c3 : 2147483648 <= d <;> by_cases c4 : x < y + b <;> simp only [c1, c2, c3, c4, decide_true, decide_false, Bool.xor_true, Bool.xor_false, Bool.true_xor, Bool.false_xor, Bool.not_true, ybm, Bool.and_true, Bool.and_false, Bool.or_true, Bool.or_false, Bool.xor_self] <;> omega
  rw [tb]; by_cases c : x < y + b
  ·simp [c]
  ·simp [c]
 rw [e2, hd]; simp
theorem zzc1 {x y c : Nat} (hx : x < 4294967296) (hy : y < 4294967296) (hc : c < 2) :
  pvC C13 F 221 [.int .u32 x, .int .u32 y, .int .u32 c] t = some (.tup [.int .u32 (((x + y + c) % 4294967296 : Nat) : Int), .int .u32 (((x + y + c) / 4294967296 : Nat) : Int)]) := by
 refine zbd.2 (w221 _ _ _ ?_)
 have e0 : ((x : Int) + y) + c = ((x + y + c : Nat) : Int) := by omega
 simp (disch := omega) only [t221, wpT, zax]
 have e1 : ((x + y + c : Nat) : Int) % 4294967296 = (((x + y + c) % 4294967296 : Nat) : Int) := by omega
 have e2 : (((x + y + c) / 4294967296 : Nat) : Int) % 4294967296 = (((x + y + c) / 4294967296 : Nat) : Int) := by omega
 rw [e0, show Int.fdiv ((x + y + c : Nat) : Int) 4294967296 = (((x + y + c) / 4294967296 : Nat) : Int) from zex _ 4294967296, zc0, zc0, e1, e2]
 simp
theorem zzcj {h l d : Nat} (hh : h < d) (hl : l < 4294967296) (hd : d < 4294967296) :
  pvC C13 F 173 [.int .u32 h, .int .u32 l, .int .u32 d] t = some (.tup [.int .u32 (((h * 4294967296 + l) / d : Nat) : Int), .int .u32 (((h * 4294967296 + l) % d : Nat) : Int)]) := by
 refine zbd.2 (w173 _ _ _ ?_)
 simp only [t173, wpT, ztu, zdi]; rw [if_pos (by omega), if_neg (by omega)]
 refine j173_7 _ _ _ ?_
 have e1 : (h : Int) * 4294967296 = ((h * 4294967296 : Nat) : Int) := by omega
 have hq : (h * 4294967296 + l) / d < 4294967296 := ybv (by
  have : (h + 1) * 4294967296 <= d * 4294967296 := yaj _ hh
  omega)
 have hr : (h * 4294967296 + l) % d < d := ybz _ (by omega)
 simp (disch := omega) only [zzdm, wpT, zax, e1]
 have e2 : zfc Nat.lor .u64 ((h * 4294967296 : Nat) : Int) (l : Int) = some (.int .u64 ((h * 4294967296 + l : Nat) : Int)) := by
  rw [zdj (k := .u64) (show h * 4294967296 < kHi .u64 by show _ < 18446744073709551616; omega) (show l < kHi .u64 by show _ < 18446744073709551616; omega)]
  have := zrw (a := h) (b := l) (n := 32) hl
  rw [show h * 4294967296 = h * 2 ^ 32 by rfl, this]
 rw [e2]; simp only [zaa, zag]; rw [zt4 (k := .u64) (by omega) (by
  generalize (h * 4294967296 + l) / d = q at hq ⊢
  exact zax (by omega) (by omega)), zoo (k := .u64) (by omega)]
 simp only [zaa, zag]; generalize (h * 4294967296 + l) / d = q at hq ⊢
 generalize (h * 4294967296 + l) % d = r at hr ⊢
 rw [zfz (by omega) (by omega), zfz (by omega) (by omega)]
 simp
theorem zzbp (v : Nat) (hv : v < 256) : ∃ k, k < 9 /\ zds [0, 1, 2, 2, 3, 3, 3, 3, 4, 4, 4, 4, 4, 4, 4, 4, 5, 5, 5, 5, 5, 5, 5, 5, 5, 5, 5, 5, 5, 5, 5, 5, 6, 6, 6, 6, 6, 6, 6, 6, 6, 6, 6, 6, 6, 6, 6, 6, 6, 6, 6, 6, 6, 6, 6, 6, 6, 6, 6, 6, 6, 6, 6, 6, 7, 7, 7, 7, 7, 7, 7, 7, 7, 7, 7, 7, 7, 7, 7, 7, 7, 7, 7, 7, 7, 7, 7, 7, 7, 7, 7, 7, 7, 7, 7, 7, 7, 7, 7, 7, 7, 7, 7, 7, 7, 7, 7, 7, 7, 7, 7, 7, 7, 7, 7, 7, 7, 7, 7, 7, 7, 7, 7, 7, 7, 7, 7, 7, 8, 8, 8, 8, 8, 8, 8, 8, 8, 8, 8, 8, 8, 8, 8, 8, 8, 8, 8, 8, 8, 8, 8, 8, 8, 8, 8, 8, 8, 8, 8, 8, 8, 8, 8, 8, 8, 8, 8, 8, 8, 8, 8, 8, 8, 8, 8, 8, 8, 8, 8, 8, 8, 8, 8, 8, 8, 8, 8, 8, 8, 8, 8, 8, 8, 8, 8, 8, 8, 8, 8, 8, 8, 8, 8, 8, 8, 8, 8, 8, 8, 8, 8, 8, 8, 8, 8, 8, 8, 8, 8, 8, 8, 8, 8, 8, 8, 8, 8, 8, 8, 8, 8, 8, 8, 8, 8, 8, 8, 8, 8, 8, 8, 8, 8, 8, 8, 8, 8, 8, 8, 8, 8, 8, 8, 8, 8, 8] v = some k /\ (v = 0 /\ k = 0 \/ 0 < k /\ 2 ^ (k - 1) <= v /\ v < 2 ^ k) := by
 have h : ∀ v : Fin 256, (zds [0, 1, 2, 2, 3, 3, 3, 3, 4, 4, 4, 4, 4, 4, 4, 4, 5, 5, 5, 5, 5, 5, 5, 5, 5, 5, 5, 5, 5, 5, 5, 5, 6, 6, 6, 6, 6, 6, 6, 6, 6, 6, 6, 6, 6, 6, 6, 6, 6, 6, 6, 6, 6, 6, 6, 6, 6, 6, 6, 6, 6, 6, 6, 6, 7, 7, 7, 7, 7, 7, 7, 7, 7, 7, 7, 7, 7, 7, 7, 7, 7, 7, 7, 7, 7, 7, 7, 7, 7, 7, 7, 7, 7, 7, 7, 7, 7, 7, 7, 7, 7, 7, 7, 7, 7, 7, 7, 7, 7, 7, 7, 7, 7, 7, 7, 7, 7, 7, 7, 7, 7, 7, 7, 7, 7, 7, 7, 7, 8, 8, 8, 8, 8, 8, 8, 8, 8, 8, 8, 8, 8, 8, 8, 8, 8, 8, 8, 8, 8, 8, 8, 8, 8, 8, 8, 8, 8, 8, 8, 8, 8, 8, 8, 8, 8, 8, 8, 8, 8, 8, 8, 8, 8, 8, 8, 8, 8, 8, 8, 8, 8, 8, 8, 8, 8, 8, 8, 8, 8, 8, 8, 8, 8, 8, 8, 8, 8, 8, 8, 8, 8, 8, 8, 8, 8, 8, 8, 8, 8, 8, 8, 8, 8, 8, 8, 8, 8, 8, 8, 8, 8, 8, 8, 8, 8, 8, 8, 8, 8, 8, 8, 8, 8, 8, 8, 8, 8, 8, 8, 8, 8, 8, 8, 8, 8, 8, 8, 8, 8, 8, 8, 8, 8, 8, 8, 8] v.val).elim false (fun k => decide (k < 9) && (decide (v.val = 0) && decide (k = 0) || decide (0 < k) && decide (2 ^ (k - 1) <= v.val) && decide (v.val < 2 ^ k))) = true := by decide +kernel
 have hv := h ⟨v, hv⟩
 simp only [] at hv; generalize zds _ v = r at hv ⊢
 cases r with
 | none => simp at hv
 | some k =>
  simp only [Option.elim_some, yac, ybr, decide_eq_true_eq] at hv; obtain ⟨hk, hv⟩ := hv
  refine ⟨k, hk, rfl, ?_⟩
  rcases hv with hv | hv
  ·exact .inl hv
  ·exact .inr ⟨hv.1.1, hv.1.2, hv.2⟩
def BL (x k : Nat) : Prop := x = 0 /\ k = 0 \/ 0 < k /\ 2 ^ (k - 1) <= x /\ x < 2 ^ k
theorem zv9 {x s : Nat} (hx : x < 256) (hs : s < 100) : ∃ k, k <= 8 /\ BL x k /\ jp 219 15 [.int .u32 x, .int .i64 s] t (fun v m => v = .int .i64 ((s + k : Nat) : Int) /\ m = t) := by
 obtain ⟨k, hk, h1, h2⟩ := zzbp x hx
 refine ⟨k, by omega, h2, zzfq _ _ ?_⟩
 simp (disch := omega) only [z5e, wpT, zzes]
 unfold zu7; rw [ty9, zad]; have : (zab.int .u8 (x : Int)).asNat = some x := rfl
 rw [this, zad]; simp only [zab.asStr]; rw [show (ATy.desc ⟨.string, 1, 16, [.str []], true⟩).isString = true from rfl, zar]
 rw [h1, zad]; simp only [zaa]; rw [show intK .u8 (.int .u8 (Int.ofNat k)) = some (Int.ofNat k) from zag]
 simp only [zaa]; rw [show Int.ofNat k = (k : Int) from rfl]
 simp (disch := omega) only [wrap_i64]
 simp
theorem zv8 {x s : Nat} (hx : x < 65536) (hs : s < 90) : ∃ k, k <= 16 /\ BL x k /\ jp 219 9 [.int .u32 x, .int .i64 s] t (fun v m => v = .int .i64 ((s + k : Nat) : Int) /\ m = t) := by
 by_cases h : 256 <= x
 ·obtain ⟨k, h1, h2, h3⟩ := zv9 (t := t) (x := x / 256) (s := s + 8) (by omega) (by omega)
  refine ⟨k + 8, by omega, ?_, zzdy _ _ ?_⟩
  ·rcases h2 with h2 | ⟨g1, g2, g3⟩
   ·omega
   ·refine .inr ⟨by omega, ?_, ?_⟩
    ·rw [show k + 8 - 1 = (k - 1) + 8 by omega, Nat.pow_add]; omega
    ·rw [Nat.pow_add]; omega
  ·simp (disch := omega) only [z5d, wpT, zdi, wrap_i64]
   rw [if_pos (by omega), show (256 : Int) = ((256 : Nat) : Int) from rfl, zex, show (s : Int) + 8 = ((s + 8 : Nat) : Int) by omega]
   rw [show s + (k + 8) = s + 8 + k by omega]
   exact h3
 ·obtain ⟨k, h1, h2, h3⟩ := zv9 (t := t) (x := x) (s := s) (by omega) (by omega)
  refine ⟨k, by omega, h2, zzdy _ _ ?_⟩
  simp only [z5d, wpT, zdi]; rw [if_neg (by omega)]
  exact h3
theorem zzbq {x : Nat} (hx : x < 4294967296) : ∃ k, k <= 32 /\ BL x k /\ pvC C13 F 219 [.int .u32 x] t = some (.int .i64 (k : Int)) := by
 by_cases h : 65536 <= x
 ·obtain ⟨k, h1, h2, h3⟩ := zv8 (t := t) (x := x / 65536) (s := 16) (by omega) (by omega)
  refine ⟨k + 16, by omega, ?_, zbd.2 (w219 _ ?_)⟩
  ·rcases h2 with h2 | ⟨g1, g2, g3⟩
   ·omega
   ·refine .inr ⟨by omega, ?_, ?_⟩
    ·rw [show k + 16 - 1 = (k - 1) + 16 by omega, Nat.pow_add]; omega
    ·rw [Nat.pow_add]; omega
  ·simp only [t219, wpT, zdi]
   rw [if_pos (by omega), show (65536 : Int) = ((65536 : Nat) : Int) from rfl, zex]
   rw [show k + 16 = 16 + k by omega]; exact h3
 ·obtain ⟨k, h1, h2, h3⟩ := zv8 (t := t) (x := x) (s := 0) (by omega) (by omega)
  refine ⟨k, by omega, h2, zbd.2 (w219 _ ?_)⟩
  simp only [t219, wpT, zdi]; rw [if_neg (by omega)]
  rw [yax] at h3; exact h3
theorem z63 {x : Nat} (hx : x < 4294967296) (h0 : 0 < x) : ∃ s : Nat, s < 32 /\ 2147483648 <= x * 2 ^ s /\ x * 2 ^ s < 4294967296 /\ pvC C13 F 212 [.int .u32 x] t = some (.int .i64 (s : Int)) := by
 obtain ⟨k, h1, h2, h3⟩ := zzbq (t := t) hx
 rcases h2 with h2 | ⟨g1, g2, g3⟩
 ·omega
 ·refine ⟨32 - k, by omega, ?_, ?_, zbd.2 (w212 _ ?_)⟩
  ·have : 2 ^ (k - 1) * 2 ^ (32 - k) = 2147483648 := by rw [<- Nat.pow_add, show k - 1 + (32 - k) = 31 by omega]
   rw [<- this]; exact yaj _ g2
  ·have : 2 ^ k * 2 ^ (32 - k) = 4294967296 := by rw [<- Nat.pow_add, show k + (32 - k) = 32 by omega]
   rw [<- this]; exact Nat.mul_lt_mul_of_pos_right g3 (Nat.pow_pos (Nat.succ_pos 1))
  ·simp (disch := omega) only [t212, wpT, q219, h3, zaa, zag, wrap_i64]
   refine ⟨?_, trivial⟩
   congr 1; omega
end Go.Proofs
namespace Go.Am
theorem zf1 {p : List Nat} {n x : Nat} : (p ++ List.replicate (n + 1) 0).set p.length x = (p ++ [x]) ++ List.replicate n 0 := by
 rw [List.set_append_right _ _ (yal _), Nat.sub_self, List.replicate_succ, List.set_cons_zero]; simp
theorem zc9 (B : Nat) (l : List Nat) (x : Nat) : val B (l ++ [x]) = val B l + B ^ l.length * x := by rw [zeh]; simp [val]
theorem zej {B : Nat} {l : List Nat} {x : Nat} (h : zau B l) (hx : x < B) : zau B (l ++ [x]) := zqs h fun y hy => by rw [yce.1 hy]; exact hx
theorem z2k {B : Nat} {r w d : Nat} (hr : r < d) (hw : w < B) : (r * B + w) / d < B := by
 have hd : 0 < d := by omega
 refine ybv ?_
 have : (r + 1) * B <= d * B := yaj B hr
 rw [yap] at this; omega
theorem zfp {l : List Nat} {i x : Nat} (h : l[i]? = some x) : l.take (i + 1) = l.take i ++ [x] := by rw [ych, h]; rfl
theorem zcc {l : List Nat} {i x : Nat} (h : l[i]? = some x) : l.drop i = x :: l.drop (i + 1) := by
 have hi := (yad.1 h)
 rw [yam hi.1, hi.2]
end Go.Am
namespace Go.Am
open Go Go.RowKit
section
variable {t : Tr zam} {C : Ctx}
theorem z62 {c : Tr zab} {sz : Nat} : ∀ (cl : List (List zab)) (off : Nat), (∀ (i : Nat) cs, cl[i]? = some cs -> cs.length = sz /\ ∀ (j : Nat) a, cs[j]? = some a -> c.get (off + i * sz + j) = some a) -> c.many (cl.length * sz) off = some cl.flatten := by
 intro cl; induction cl with
 | nil => intro off _; simp; rfl
 | cons cs cl ih =>
  intro off h; obtain ⟨h1, h2⟩ := h 0 cs (by simp)
  have hrest := ih (off + sz) fun i cs' hi => by
   obtain ⟨g1, g2⟩ := h (i + 1) cs' (by simpa using hi)
   refine ⟨g1, fun j a hj => ?_⟩
   have := g2 j a hj
   rw [show off + sz + i * sz + j = off + (i + 1) * sz + j by rw [yap]; omega]
   exact this
  have key : ∀ (n : Nat) (l r : List zab) (off : Nat), l.length = n -> (∀ (j : Nat) a, l[j]? = some a -> c.get (off + j) = some a) -> ∀ m, c.many m (off + n) = some r -> c.many (n + m) off = some (l ++ r) := by
   intro n; induction n with
   | zero =>
    intro l r off hl _ m hm; have : l = [] := ybd.1 hl
    subst this; simpa using hm
   | succ n ihn =>
    intro l r off hl hg m hm
    cases l with
    | nil => simp at hl
    | cons a l =>
     rw [show n + 1 + m = (n + m) + 1 by omega, Tr.many_succ]
     have := hg 0 a (by simp)
     rw [ybu] at this; rw [this, zad, ihn l r (off + 1) (by simpa using hl) (fun j b hj => by
      have := hg (j + 1) b (by simpa using hj)
      rw [show off + 1 + j = off + (j + 1) by omega]; exact this) m (by rw [show off + 1 + n = off + (n + 1) by omega]; exact hm)]
     rfl
  rw [List.flatten_cons, yao, yap, Nat.one_mul, Nat.add_comm]; exact key sz cs _ off h1 (fun j a hj => by have := h2 j a hj; rw [Nat.zero_mul, ybu] at this; exact this) _ hrest
theorem zna.first {sz : Nat} {v : zab} {cl : List (List zab)} (h : zna t sz v cl) {n : Nat} : zit ⟨n, t⟩ sz cl.length v = some cl.flatten /\ znq v = some cl.length := by
 rcases h with ⟨rfl, rfl⟩ | ⟨b, off, cap, rfl, _, ⟨c, m, lo, h1, _⟩, h2⟩
 ·exact ⟨rfl, rfl⟩
 ·refine ⟨?_, rfl⟩
  unfold zit; simp only [zab.asSlice]; unfold zaq; rw [h1, zad]; simp only [zam.asCells, zad]; refine z62 cl off fun i cs hi => ?_
  obtain ⟨g1, c', m', lo', g2, g3⟩ := h2 i cs hi
  rw [h1] at g2
  cases g2
  exact ⟨g1, g3⟩
theorem z1p {sz : Nat} : ∀ {cl : List (List zab)}, (∀ (i : Nat) cs, cl[i]? = some cs -> cs.length = sz) -> cl.flatten.length = cl.length * sz := by
 intro cl; induction cl with
 | nil => intro _; simp
 | cons c cl ih =>
  intro h; rw [List.flatten_cons, yah, yao, yap, ih fun i cs hi => h (i + 1) cs (by simpa using hi), h 0 c (by simp)]
  omega
theorem zt8 {sz : Nat} : ∀ {cl : List (List zab)}, (∀ (i : Nat) cs, cl[i]? = some cs -> cs.length = sz) -> ∀ (i j : Nat) cs a, cl[i]? = some cs -> cs[j]? = some a -> cl.flatten[i * sz + j]? = some a := by
 intro cl; induction cl with
 | nil => intro _ i j cs a h; simp at h
 | cons c cl ih =>
  intro h i j cs a hi hj; have hc := h 0 c (by simp)
  rw [List.flatten_cons]
  cases i with
  | zero =>
   simp at hi; subst hi; rw [Nat.zero_mul, yax, ybp (yad.1 hj).1]
   exact hj
  | succ i =>
   rw [yaq (by rw [hc, yap]; omega), hc, show (i + 1) * sz + j - sz = i * sz + j by rw [yap]; omega]
   exact ih (fun i cs hi => h (i + 1) cs (by simpa using hi)) i j cs a (by simpa using hi) hj
theorem zna.len {sz : Nat} {v : zab} {cl : List (List zab)} (h : zna t sz v cl) : ∀ (i : Nat) cs, cl[i]? = some cs -> cs.length = sz := by
 rcases h with ⟨rfl, rfl⟩ | ⟨b, off, cap, rfl, _, _, h2⟩
 ·intro i cs hi; simp at hi
 ·exact fun i cs hi => (h2 i cs hi).1
theorem zqj {sz n : Nat} {cl : List (List zab)} {t' : Tr zam} {lo : Option Lo} (hl : ∀ (i : Nat) cs, cl[i]? = some cs -> cs.length = sz) (h : t'.get n = some (.cells (Tr.ofList cl.flatten) (zbp cl.flatten) lo)) (hlo : lo = none \/ ∃ x, lo = some x /\ x.es = sz) : zna t' sz (.slice n 0 cl.length cl.length) cl :=
 .inr ⟨n, 0, cl.length, rfl, yal _, ⟨_, _, _, h, hlo⟩, fun i cs hi => ⟨hl i cs hi, _, _, _, h, fun j a hj => by
  rw [Tr.get_ofList, yax]; exact zt8 hl i j cs a hi hj⟩⟩
def NB (C : Ctx) (el : Nat) : Prop := ∀ y, C.tys.get el = some y -> z74 y = false
theorem NB.code {el : Nat} {z : ATy} (h : NB C el) (hz : C.tys.get el = some z) : zdw el z = .sz z.size := by
 unfold zdw; rw [h z hz, Bool.and_false]; rfl
structure zz5 (C : Ctx) (T el sz : Nat) : Prop where
 ty : ∃ y, C.tys.get T = some y /\ y.desc.asSlice = some el /\ Nat.beq y.desc.tag 1 = false
 el : ∃ y, C.tys.get el = some y /\ y.size = sz /\ zbp y.zero = sz /\ y.bytes <= 500 /\ 0 < sz
structure ElTy (C : Ctx) (T e sz : Nat) : Prop where
 ty : ∃ y, C.tys.get T = some y /\ y.desc.asSlice = some e /\ Nat.beq y.desc.tag 1 = false
 el : ∃ y, C.tys.get e = some y /\ y.size = sz /\ zbp y.zero = sz /\ y.bytes <= 500 /\ 0 < sz
 nb : NB C e
theorem zzv {T el sz : Nat} (hT : ElTy C T el sz) {l : List D} {x s : zab} (hx : RSl t sz l x) (hl : l.length < 1000000) {n : Nat} (hn : t.get n = none)
  (hs : s = .nilslice \/ ∃ b c m, s = .slice b 0 0 0 /\ t.get b = some (.cells c m none)) :
  ∃ v H', zcd C T T s x ⟨n, t⟩ = some (v, H') /\ RSl H'.t sz l v /\ TLe t H'.t /\ Off n t H'.t := by
 obtain ⟨⟨y, hy1, hy2, hy3⟩, ⟨z, hz1, hz2, hz3, hz4, hz5⟩, hnb⟩ := hT
 have hcode := NB.code hnb hz1
 obtain ⟨cl, he, hd⟩ := hx
 have hcl := hd.length
 obtain ⟨hf, hlen⟩ := he.first (n := n)
 have hall := he.len
 have base : zcd C T T s x ⟨n, t⟩ = (match s.asSlice with
  | some s => bif Nat.ble (s.2.2.1 + cl.length) s.2.2.2 then zg9 C ⟨n, t⟩ z cl.length cl.flatten s else zh7 C ⟨n, t⟩ el z cl.length cl.flatten s
  | none => zah (Nat.beq s.tag 5) (zfv ⟨n, t⟩ el z cl.length cl.flatten)) := by
  unfold zcd zih; rw [hy1, zad, zad, hy3]; simp only [ybm, zar]; rw [hy2, zad, hz1, zad, hlen, zad, hz2, hf, zad]; rfl
 have hfl : zbp cl.flatten = cl.length * sz := by rw [zav]; exact z1p hall
 have ok : zlu z 0 0 cl.length cl.flatten = true := by
  unfold zlu; have h1 : Nat.blt (0 + cl.length + 0) 1000000000 = true := zcz.2 (by omega)
  have h2 : Nat.blt ((0 + cl.length + 0) * z.bytes) 1000000000 = true := zcz.2 (by
   have := ycc (show 0 + cl.length + 0 <= 1000000 by omega) hz4
   omega)
  have h3 : Nat.blt z.bytes 1000000000 = true := zcz.2 (by omega)
  have h4 : (!Nat.beq z.size 0) = true := by
   cases hq : Nat.beq z.size 0 with
   | true => have := zck.1 hq; omega
   | false => rfl
  have h5 : Nat.beq (zbp cl.flatten) (cl.length * z.size) = true := by rw [hfl, hz2]; exact zck.2 rfl
  have h6 : Nat.beq (zbp z.zero) z.size = true := by rw [hz3, hz2]; exact zck.2 rfl
  rw [h1, h2, h3, h4, h5, h6]; rfl
 have newT : ∀ (q : zam), TLe t (t.set n q) /\ Off n t (t.set n q) := fun q => ⟨fun c u hc => by
   rw [Tr.get_set, if_neg (by intro e; rw [e, hn] at hc; cases hc)]; exact hc, fun c hc => by rw [Tr.get_set, if_neg hc]⟩
 rcases hs with rfl | ⟨b, c, m, rfl, hb⟩
 ·by_cases h0 : cl.length = 0
  ·have : cl = [] := ybd.1 h0
   subst this; refine ⟨.nilslice, ⟨n, t⟩, ?_, ⟨[], .inl ⟨rfl, rfl⟩, hd⟩, TLe.refl _, Off.refl _ _⟩
   rw [base]; rfl
  ·refine ⟨.slice n 0 cl.length cl.length, ⟨n + 1, t.set n (.cells (Tr.ofList cl.flatten) (zbp cl.flatten) (some (zdw el z)))⟩, ?_, ⟨cl, zqj hall (show (t.set n _).get n = _ by rw [Tr.get_set, if_pos rfl]) (.inr ⟨_, rfl, by rw [znd, hz2]⟩), RDs.mono (newT _).1 _ _ hd⟩, (newT _).1, (newT _).2⟩
   rw [base]; simp only [zab.asSlice]; show zah true (zfv ⟨n, t⟩ el z cl.length cl.flatten) = _
   rw [zar]; unfold zfv; have : Nat.beq cl.length 0 = false := by
    cases hq : Nat.beq cl.length 0 with
    | true => exact absurd (zck.1 hq) h0
    | false => rfl
   rw [this, cond_false, ok]; rfl
 ·by_cases h0 : cl.length = 0
  ·have : cl = [] := ybd.1 h0
   subst this; refine ⟨.slice b 0 0 0, ⟨n, t⟩, ?_, ⟨[], .inr ⟨b, 0, 0, rfl, yal _, ⟨c, m, none, hb, .inl rfl⟩, fun i cs hi => by simp at hi⟩, hd⟩, TLe.refl _, Off.refl _ _⟩
   rw [base]; rfl
  ·refine ⟨.slice n 0 cl.length cl.length, ⟨n + 1, t.set n (.cells (Tr.ofList cl.flatten) (zbp cl.flatten) (some (zdw el z)))⟩, ?_, ⟨cl, zqj hall (show (t.set n _).get n = _ by rw [Tr.get_set, if_pos rfl]) (.inr ⟨_, rfl, by rw [znd, hz2]⟩), RDs.mono (newT _).1 _ _ hd⟩, (newT _).1, (newT _).2⟩
   rw [base]; simp only [zab.asSlice]; have : Nat.ble (0 + cl.length) 0 = false := by
    cases hq : Nat.ble (0 + cl.length) 0 with
    | true => have := zhm.1 hq; omega
    | false => rfl
   rw [this, cond_false]; unfold zh7; simp only []; rw [show ∀ x, (!(Nat.beq 0 1 && x)) = true from fun _ => rfl, zar, ok, zar]
   unfold zaq; rw [hb, zad]; simp only [zam.asCells, zad]; unfold zhw; simp only [Nat.zero_mul]; show ob (c.many 0 0) _ = _
   rw [show c.many 0 0 = some [] from rfl, zad]; rw [zbx, List.nil_append, yax]; rfl
end
end Go.Am
namespace Go.Proofs
open Go Go.Am
variable [zc6]
variable {t : Tr zam}
theorem el305 : ElTy C13 200 202 1 := ⟨⟨_, zk4, rfl, rfl⟩, ⟨_, zd5, rfl, rfl, by decide, by decide⟩, fun y h => by rw [zd5] at h; cases h; rfl⟩
theorem lit0 {T el : Nat} {y z : ATy} (hT : C13.tys.get T = some y) (hel : y.desc.asSlice = some el) (hz : C13.tys.get el = some z) (hs : zbp z.zero = z.size) {b : Nat} (hb : t.get b = none) :
  ∃ H', zaz C13 T 0 [] ⟨b, t⟩ = some (.slice b 0 0 0, H') /\ (∃ c, H'.t.get b = some (.cells c 0 none)) /\ TLe t H'.t := by
 refine ⟨zaw ⟨b, t⟩ [] none, ?_, ⟨Tr.ofList [], ?_⟩, ?_⟩
 ·unfold zaz
  rw [hT, zad, hel, zad, hz, zad]; have : (Nat.blt (0 * z.size) 1000000 && Nat.beq (zbp z.zero) z.size) = true := by rw [Nat.zero_mul, hs, zck.2 rfl]; rfl
  rw [this]; rfl
 ·show (t.set b _).get b = _
  rw [Tr.get_set, if_pos rfl]; rfl
 ·intro c u hc
  show (t.set b _).get c = _
  rw [Tr.get_set, if_neg (by intro e; rw [e, hb] at hc; cases hc)]; exact hc
theorem zzcs {l : List Nat} {v : zab} {Q : zay} (hv : RSl t 1 (zas .u32 l) v) (hl : l.length < 1000000)
  (hQ : ∀ t' v', TLe t t' -> RSl t' 1 (zas .u32 l) v' -> Q v' t') : Wc C13 F 214 [v] t Q := by
 refine w214 _ ?_
 have e : (binA .eql).f C13 200 (.tmp 3) (.const (.slice none 0 0)) v .nilslice = some (.bool (Nat.beq v.tag 5)) := by
  obtain ⟨cl, h1, _⟩ := hv
  rcases h1 with ⟨rfl, _⟩ | ⟨b, off, cap, rfl, _⟩
  ·kernel_rfl
  ·kernel_rfl
 simp only [t214, wpT, e, zaa, zeg]; split
 ·rename_i h
  have : v = .nilslice := (zj5.2.1).1 (zck.1 h)
  subst this; exact hQ _ _ (TLe.refl _) hv
 ·intro b hb hbase
  obtain ⟨H1, g1, ⟨c, g2⟩, g3⟩ := lit0 (t := t) zk4 rfl zd5 rfl hb
  rw [g1]; simp only [zaa]; intro n hn _; obtain ⟨u, H', g4, g5, g6, _⟩ := zzv el305 (hv.mono g3) (by rw [zat]; exact hl) hn (.inr ⟨b, c, 0, rfl, g2⟩)
  rw [g4]; simp only [zaa]; exact hQ _ _ (g3.trans g6) g5
def zrv (n : Nat) : List Nat := zco [n % 4294967296, n / 4294967296]
theorem z17 (n : Nat) : val 4294967296 (zrv n) = n := by unfold zrv; rw [zc1]; simp only [val]; omega
theorem zxc {n : Nat} (h : n < 18446744073709551616) : zau 4294967296 (zrv n) := zcu fun x hx => by
 simp at hx; omega
theorem zyu (n : Nat) : norm (zrv n) := zdk _
theorem zmy {T el : Nat} {y z : ATy} {k : IntKind} (hT : C13.tys.get T = some y) (hel : y.desc.asSlice = some el) (hz : C13.tys.get el = some z) (hzero : z.zero = [.int k 0]) (hs : z.size = 1) (x : Nat) (hk : True) {b : Nat} (hb : t.get b = none) :
  ∃ H', zaz C13 T 1 [(0, .int k (x : Int))] ⟨b, t⟩ = some (.slice b 0 1 1, H') /\ Own H'.t b k [x] /\ TLe t H'.t := by
 refine ⟨zaw ⟨b, t⟩ [.int k (x : Int)] none, ?_, ⟨Tr.ofList [.int k (x : Int)], ?_, fun j u hj => ?_⟩, ?_⟩
 ·unfold zaz
  rw [hT, zad, hel, zad, hz, zad, hs, hzero]; rfl
 ·show (t.set b _).get b = _
  rw [Tr.get_set, if_pos rfl]; rfl
 ·rw [Tr.get_ofList]
  cases j with
  | zero => simp at hj; subst hj; rfl
  | succ j => simp at hj
 ·intro c u hc
  show (t.set b _).get c = _
  rw [Tr.get_set, if_neg (by intro e; rw [e, hb] at hc; cases hc)]; exact hc
theorem zzbn {T el : Nat} {y z : ATy} {k : IntKind} (hT : C13.tys.get T = some y) (hel : y.desc.asSlice = some el) (hz : C13.tys.get el = some z) (hzero : z.zero = [.int k 0]) (hs : z.size = 1) (x x' : Nat) {b : Nat} (hb : t.get b = none) :
  ∃ H', zaz C13 T 2 [(0, .int k (x : Int)), (1, .int k (x' : Int))] ⟨b, t⟩ = some (.slice b 0 2 2, H') /\ Own H'.t b k [x, x'] /\ TLe t H'.t := by
 refine ⟨zaw ⟨b, t⟩ [.int k (x : Int), .int k (x' : Int)] none, ?_, ⟨Tr.ofList [.int k (x : Int), .int k (x' : Int)], ?_, fun j u hj => ?_⟩, ?_⟩
 ·unfold zaz
  rw [hT, zad, hel, zad, hz, zad, hs, hzero]; rfl
 ·show (t.set b _).get b = _
  rw [Tr.get_set, if_pos rfl]; rfl
 ·rw [Tr.get_ofList]
  cases j with
  | zero => simp at hj; subst hj; rfl
  | succ j =>
   cases j with
   | zero => simp at hj; subst hj; rfl
   | succ j => simp at hj
 ·intro c u hc
  show (t.set b _).get c = _
  rw [Tr.get_set, if_neg (by intro e; rw [e, hb] at hc; cases hc)]; exact hc
theorem zzaw {n : Nat} {Q : zay} (hn : n < 18446744073709551616) (hQ : ∀ t' v', TLe t t' -> RSl t' 1 (zas .u32 (zrv n)) v' -> Q v' t') : Wc C13 F 208 [.int .u64 n] t Q := by
 refine w208 _ ?_
 have e1 : zai .u32 (n : Int) = ((n % 4294967296 : Nat) : Int) := by rw [zc0]; omega
 have e2 : zai .u32 (Int.fdiv (n : Int) 4294967296) = ((n / 4294967296 : Nat) : Int) := by
  rw [show Int.fdiv (n : Int) 4294967296 = ((n / 4294967296 : Nat) : Int) from zex _ 4294967296, zfz (by omega) (by omega)]
 simp only [t208, wpT, e1, e2]; intro b hb _; obtain ⟨H', g1, g2, g3⟩ := zzbn (t := t) (k := .u32) zk4 rfl zd5 rfl rfl (n % 4294967296) (n / 4294967296) hb
 rw [g1]; simp only [zaa]; obtain ⟨v', h1, h2⟩ := zkm (l := [n % 4294967296, n / 4294967296]) (by simp) (g2.all (yal _))
 simp only [q174]; have h1 : pvC C13 F 174 [.slice b 0 2 2] H'.t = some v' := h1
 rw [h1]; exact hQ _ _ g3 h2
theorem zx0 {l : List Nat} {v : zab} {b : Nat} {neg : Bool} {Q : zay} (hv : RSl t 1 (zas .u32 l) v) (hl : l.length < 400000) (hlt : zau 4294967296 l) (hne : l ≠ []) (hnorm : norm l) (hbase : C13.base <= b) (hb : t.get b = none)
  (hQ : ∀ t' v', TLe t t' -> RSl t' 1 (zas .u16 (zco (zbn l))) v' -> Q (.agg [.bool neg, v']) t') : ∀ (k i : Nat) (t' : Tr zam), i + k = l.length -> TLe t t' -> Own t' b .u16 (zbn (l.take i) ++ List.replicate (2 * k) 0) →
  jp 193 2 [.bool neg, .slice b 0 (2 * l.length) (2 * l.length), v, .int .i64 l.length, .int .i64 i, .bool false, .nilslice] t' Q := by
 intro k; induction k with
 | zero =>
  intro i t' hi ht ho; refine zzd6 _ _ _ _ _ _ _ ?_
  rw [ybb (by omega), Nat.mul_zero, List.replicate_zero, ybe] at ho
  obtain ⟨m, w, rfl⟩ := zlm hne
  have hw : w ≠ 0 := by have := hnorm (by simp); simpa using this
  have hwlt : w < 4294967296 := hlt w (by simp)
  have hul : (zbn (m ++ [w])).length = 2 * (m ++ [w]).length := ze4 _
  have hml : (m ++ [w]).length = m.length + 1 := by simp
  have hlast : (zbn (m ++ [w]))[2 * m.length + 1]? = some (w / 65536) := by
   rw [zgf, yaq (by rw [ze4]; omega), ze4]
   rw [show 2 * m.length + 1 - 2 * m.length = 1 by omega]; rfl
  have hread := ho.all (cap := 2 * (m ++ [w]).length) (by omega)
  rw [hul] at hread; have g3 : zaj C13 22 (.slice b 0 (2 * (m ++ [w]).length) (2 * (m ++ [w]).length)) (.int .i64 ((2 * m.length + 1 : Nat) : Int)) = some (.ptr b (0 + (2 * m.length + 1) * 1)) := zdf sl22 (by omega)
  rw [show 0 + (2 * m.length + 1) * 1 = 2 * m.length + 1 by omega] at g3
  have g4 := ho.load hlast zzae rfl
  have e1 : ((2 * (m ++ [w]).length : Nat) : Int) - 1 = ((2 * m.length + 1 : Nat) : Int) := by rw [hml]; omega
  have hlen : zbw (.slice b 0 (2 * (m ++ [w]).length) (2 * (m ++ [w]).length)) = some (.int .i64 ((2 * (m ++ [w]).length : Nat) : Int)) := rfl
  have hb2 : 2 * m.length + 1 < 1000000 := by omega
  simp (disch := omega) only [z5q, wpT, za7, hlen, zaa, zag, e1, wrap_i64, g3, g4, zew]
  rw [if_neg (by omega)]
  by_cases hz : w / 65536 = 0
  ·rw [if_pos (by rw [hz]; rfl)]
   obtain ⟨u, g5, g6⟩ := zxl.front sl22 hread (k := 2 * m.length + 1) (by rw [zat, hul]; omega)
   rw [g5]; simp only [zaa]; have hone : zgv zab.one [.bool neg, u] = true := by
    show (bif zab.one (.bool neg) then (bif zab.one u then true else false) else false) = true
    rw [g6.one]; rfl
   rw [if_pos hone, if_pos hone]; refine hQ _ _ ht ?_
   rw [zso] at g6; rw [zk8 hw, if_pos hz]; have : (zbn (m ++ [w])).take (2 * m.length + 1) = zbn m ++ [w % 65536] := by
    rw [zgf, show zbn m ++ [w % 65536, w / 65536] = (zbn m ++ [w % 65536]) ++ [w / 65536] by simp]
    rw [List.take_left' (by simp [ze4])]
   rw [this] at g6; exact g6
  ·rw [if_neg (by omega)]
   have hone : zgv zab.one [.bool neg, .slice b 0 (2 * (m ++ [w]).length) (2 * (m ++ [w]).length)] = true := rfl
   rw [if_pos hone, if_pos hone]; refine hQ _ _ ht ?_
   rw [zk8 hw, if_neg hz]; exact hread
 | succ k ih =>
  intro i t' hi ht ho; obtain ⟨x, hx⟩ := getElem?_of_lt (l := l) (i := i) (by omega)
  have hxlt : x < 4294967296 := zbi hlt hx
  obtain ⟨c, off, g1, g2⟩ := (hv.mono ht).idx zdl hx
  have htl : (l.take i).length = i := by simp; omega
  have hpl : (zbn (l.take i)).length = 2 * i := by rw [ze4, htl]
  have hlen0 : (zbn (l.take i) ++ List.replicate (2 * (k + 1)) 0).length = 2 * l.length := by simp [hpl]; omega
  have g3 : ∀ j, j < 2 * l.length -> zaj C13 22 (.slice b 0 (2 * l.length) (2 * l.length)) (.int .i64 (j : Int)) = some (.ptr b j) := by
   intro j hj; have := zdf (b := b) (off := 0) (cap := 2 * l.length) sl22 hj
   rw [show 0 + j * 1 = j by omega] at this; exact this
  have g3a := g3 (2 * i) (by omega)
  have g3b := g3 (2 * i + 1) (by omega)
  obtain ⟨t1, s1, s2, s3⟩ := ho.store (C := C13) hbase (j := 2 * i) (by rw [hlen0]; omega) (x % 65536) zzae rfl
  have hs2 : (zbn (l.take i) ++ List.replicate (2 * (k + 1)) 0).set (2 * i) (x % 65536) = (zbn (l.take i) ++ [x % 65536]) ++ List.replicate (2 * k + 1) 0 := by
   rw [<- hpl, show 2 * (k + 1) = (2 * k + 1) + 1 by omega]; exact zf1
  rw [hs2] at s2; obtain ⟨t2, s4, s5, s6⟩ := s2.store (C := C13) hbase (j := 2 * i + 1) (by simp [hpl]) (x / 65536) zzae rfl
  have hs5 : ((zbn (l.take i) ++ [x % 65536]) ++ List.replicate (2 * k + 1) 0).set (2 * i + 1) (x / 65536) = zbn (l.take (i + 1)) ++ List.replicate (2 * k) 0 := by
   have hq : (zbn (l.take i) ++ [x % 65536]).length = 2 * i + 1 := by simp [hpl]
   rw [<- hq, zf1, zfp hx, zgf]; simp
  rw [hs5] at s5; have e1 : zai .u16 (x : Int) = ((x % 65536 : Nat) : Int) := by rw [zu1]; omega
  have e2 : zai .u16 (Int.fdiv (x : Int) 65536) = ((x / 65536 : Nat) : Int) := by
   rw [show Int.fdiv (x : Int) 65536 = ((x / 65536 : Nat) : Int) from zex _ 65536, z98 (by omega) (by omega)]
  have e3 : (2 : Int) * (i : Int) = ((2 * i : Nat) : Int) := by omega
  have e4 : ((2 * i : Nat) : Int) + 1 = ((2 * i + 1 : Nat) : Int) := by omega
  refine zzd6 _ _ _ _ _ _ _ ?_
  simp (disch := omega) only [z5q, wpT, za7, g1, g2, zaa, zag, e1, e2, e3, e4, wrap_i64, g3a, g3b]
  rw [if_pos (by omega)]
  intro d _ _; rw [s1]; simp only [zaa]; intro d' _ _; rw [s4]; simp only [zaa]; have := ih (i + 1) t2 (by omega) ((ht.off hb s3).off hb s6) s5
  rw [show ((i + 1 : Nat) : Int) = (i : Int) + 1 by omega] at this
  exact this
theorem z4x {l : List Nat} {v : zab} {neg : Bool} {Q : zay} (hv : RSl t 1 (zas .u32 l) v) (hl : l.length < 400000) (hlt : zau 4294967296 l)
  (hQ : ∀ t' v', TLe t t' -> RSl t' 1 (zas .u16 (zco (zbn (zco l)))) v' -> Q (.agg [.bool (if zco l = [] then false else neg), v']) t') : Wc C13 F 193 [.bool neg, v] t Q := by
 refine w193 _ _ ?_
 obtain ⟨u, h1, h2⟩ := zkm (l := l) (by omega) hv
 have hsl := zo6 l
 simp only [t193, wpT, q174, h1, zaa, h2.len, zag, zat, zew]; by_cases h0 : zco l = []
 ·rw [if_pos (by rw [h0]; rfl)]
  simp only [if_true]; have := hQ t .nilslice (TLe.refl _) (by rw [h0]; exact ⟨[], .inl ⟨rfl, rfl⟩, by simp [zbn, zco, zas, RDs]⟩)
  rw [if_pos h0] at this; exact this
 ·have hpos : 0 < (zco l).length := List.length_pos_iff.2 h0
  rw [if_neg (by omega)]
  have e1 : (2 : Int) * ((zco l).length : Int) = ((2 * (zco l).length : Nat) : Int) := by omega
  simp (disch := omega) only [e1, wrap_i64]
  intro b hb hbase; obtain ⟨t', g1, g2, g3, _⟩ := zjn (C := C13) (k := .u16) ty22 rfl zzae rfl rfl (by decide) (n := 2 * (zco l).length) (by omega) hb
  rw [g1]; simp only [zaa]; refine zx0 h2 (by omega) (zcu hlt) h0 (zdk l) hbase hb (fun t2 v2 a b => ?_) (zco l).length 0 t' (by omega) g3 (by simpa [zbn] using g2)
  have := hQ t2 v2 a b
  rw [if_neg h0] at this; exact this
end Go.Proofs
namespace Go.Proofs
open Go Go.Am
variable [zc6]
variable {t : Tr zam}
theorem zkw {T el : Nat} (h : zxl C13 T el 1 false) {b n cap j : Nat} (hj : j < n) : zaj C13 T (.slice b 0 n cap) (.int .i64 (j : Int)) = some (.ptr b j) := by
 have := zdf (b := b) (off := 0) (cap := cap) h hj
 rw [show 0 + j * 1 = j by omega] at this; exact this
theorem z1l {x s : Nat} (hs : s < 64) (hx : x * 2 ^ s < 18446744073709551616) : z76 .u64 (x : Int) (s : Int) = some (.int .u64 ((x * 2 ^ s : Nat) : Int)) := by
 unfold z76 zpe; have : ziv (s : Int) = some s := rfl
 rw [this, zad, zad]; have hm : min s (IntKind.bits .u64) = s := by show min s 64 = s; omega
 rw [hm]; have e : (x : Int) * Int.ofNat (2 ^ s) = ((x * 2 ^ s : Nat) : Int) := by rw [Int.natCast_mul]; rfl
 rw [e, zax (by omega) (by omega)]
theorem z1k {x s : Nat} (hs : s < 65) : zzfz .u64 (x : Int) (s : Int) = some (.int .u64 ((x / 2 ^ s : Nat) : Int)) := by
 unfold zzfz zpe; have : ziv (s : Int) = some s := rfl
 rw [this, zad, zad]; have hm : min s (IntKind.bits .u64) = s := by show min s 64 = s; omega
 rw [hm]; have e : Int.fdiv (x : Int) (Int.ofNat (2 ^ s)) = ((x / 2 ^ s : Nat) : Int) := zex x (2 ^ s)
 rw [e]
theorem z6i {s : Nat} (hs : s < 32) : 2 ^ s <= 2147483648 := Nat.pow_le_pow_right (n := 2) (by decide) (show s <= 31 by omega)
theorem zvx {s : Nat} (hs : s <= 32) : 2 ^ s * 2 ^ (32 - s) = 4294967296 := by rw [<- Nat.pow_add, show s + (32 - s) = 32 by omega]
theorem zzfk {x s : Nat} (hs : s <= 32) : (x * 2 ^ s % 4294967296) % 2 ^ s = 0 := by
 rw [<- zvx hs, yai x, Nat.mul_mod_mul_left, Nat.mul_mod_right]
theorem zvj {l : List Nat} {v : zab} {b s : Nat} {Q : zay} (hv : RSl t 1 (zas .u32 l) v) (hl : l.length < 900000) (hlt : zau 4294967296 l) (hs : s < 32) (hbase : C13.base <= b) (hb : t.get b = none)
  (hQ : ∀ t' r, TLe t t' -> Off b t t' -> Own t' b .u32 r -> r.length = l.length + 1 -> zau 4294967296 r -> val 4294967296 r = val 4294967296 l * 2 ^ s -> Q (.slice b 0 (l.length + 1) (l.length + 1)) t') :
  ∀ (k i : Nat) (t' : Tr zam) (P : List Nat) (c : Nat), i + k = l.length -> TLe t t' -> Off b t t' -> Own t' b .u32 ((P ++ [c]) ++ List.replicate k 0) -> P.length = i -> c < 2 ^ s -> zau 4294967296 P -> val 4294967296 P + 4294967296 ^ i * c = val 4294967296 (l.take i) * 2 ^ s →
  jp 215 2 [.int .i64 s, .slice b 0 (l.length + 1) (l.length + 1), v, .int .i64 l.length, .int .i64 i] t' Q := by
 have hp2 := z6i hs
 intro k; induction k with
 | zero =>
  intro i t' P c hi ht hoff ho hP hc hPl hval; refine zzd1 _ _ _ _ _ ?_
  simp only [z5i, wpT, za7]; rw [if_neg (by omega)]
  rw [List.replicate_zero, ybe] at ho; refine hQ t' (P ++ [c]) ht hoff ho (by simp; omega) (zej hPl (by omega)) ?_
  rw [zc9, hP, hval, ybb (by omega)]
 | succ k ih =>
  intro i t' P c hi ht hoff ho hP hc hPl hval; obtain ⟨x, hx⟩ := getElem?_of_lt (l := l) (i := i) (by omega)
  have hxlt : x < 4294967296 := zbi hlt hx
  obtain ⟨d, off, g1, g2⟩ := (hv.mono ht).idx zdl hx
  have hxs : x * 2 ^ s < 4294967296 * 2 ^ s := Nat.mul_lt_mul_of_pos_right hxlt (Nat.pow_pos (by decide))
  have hxs2 : x * 2 ^ s < 18446744073709551616 := by
   have : 4294967296 * 2 ^ s <= 4294967296 * 2147483648 := yaw _ hp2
   omega
  have hlow := zzfk (x := x) (s := s) (by omega)
  have hlor : Nat.lor c (x * 2 ^ s % 4294967296) = x * 2 ^ s % 4294967296 + c := by
   have := or_low (a := x * 2 ^ s % 4294967296) (b := c) (n := s) hc hlow
   show c ||| _ = _
   rw [Nat.or_comm]; exact this
  have hsum : x * 2 ^ s % 4294967296 + c < 4294967296 := by
   have h1 : x * 2 ^ s % 4294967296 < 4294967296 := ybz _ (by decide)
   have h2 : (4294967296 : Nat) % 2 ^ s = 0 := by rw [<- zvx (s := s) (by omega), Nat.mul_mod_right]
   obtain ⟨p, hp⟩ := Nat.dvd_of_mod_eq_zero hlow
   obtain ⟨q, hq⟩ := Nat.dvd_of_mod_eq_zero h2
   have hpq : p < q := by
    rcases Nat.lt_or_ge p q with g | g
    ·exact g
    ·have := yaw (2 ^ s) g; omega
   have := yaw (2 ^ s) (show p + 1 <= q from hpq)
   rw [yan] at this; omega
  have hhigh : x * 2 ^ s / 4294967296 < 2 ^ s := ybv (by omega)
  have hlen0 : ((P ++ [c]) ++ List.replicate (k + 1) 0).length = l.length + 1 := by simp; omega
  have g3a := zkw zdl (b := b) (n := l.length + 1) (cap := l.length + 1) (j := i) (by omega)
  have g3b := zkw zdl (b := b) (n := l.length + 1) (cap := l.length + 1) (j := i + 1) (by omega)
  have g4 := ho.load (j := i) (x := c) (by rw [yba, yaq (by omega), hP, Nat.sub_self]; rfl) zd5 rfl
  obtain ⟨t1, s1, s2, s3⟩ := ho.store (C := C13) hbase (j := i) (by rw [hlen0]; omega) (x * 2 ^ s % 4294967296 + c) zd5 rfl
  have hs2 : ((P ++ [c]) ++ List.replicate (k + 1) 0).set i (x * 2 ^ s % 4294967296 + c) = (P ++ [x * 2 ^ s % 4294967296 + c]) ++ List.replicate (k + 1) 0 := by
   rw [yba, set_append_right hP]; simp
  rw [hs2] at s2; obtain ⟨t2, s4, s5, s6⟩ := s2.store (C := C13) hbase (j := i + 1) (by simp; omega) (x * 2 ^ s / 4294967296) zd5 rfl
  have hs5 : ((P ++ [x * 2 ^ s % 4294967296 + c]) ++ List.replicate (k + 1) 0).set (i + 1) (x * 2 ^ s / 4294967296) = ((P ++ [x * 2 ^ s % 4294967296 + c]) ++ [x * 2 ^ s / 4294967296]) ++ List.replicate k 0 := by
   have hq : (P ++ [x * 2 ^ s % 4294967296 + c]).length = i + 1 := by simp [hP]
   rw [<- hq]; exact zf1
  rw [hs5] at s5; refine zzd1 _ _ _ _ _ ?_
  have e1 : zai .u32 ((x * 2 ^ s : Nat) : Int) = ((x * 2 ^ s % 4294967296 : Nat) : Int) := by rw [zc0]; omega
  have e2 : zai .u32 (Int.fdiv ((x * 2 ^ s : Nat) : Int) 4294967296) = ((x * 2 ^ s / 4294967296 : Nat) : Int) := by
   rw [show Int.fdiv ((x * 2 ^ s : Nat) : Int) 4294967296 = ((x * 2 ^ s / 4294967296 : Nat) : Int) from zex _ 4294967296]
   generalize x * 2 ^ s = z at hhigh ⊢
   rw [zfz (by omega) (by omega)]
  simp (disch := omega) only [z5i, wpT, za7, g1, g2, zaa, zag, zax, g3a, g4]
  rw [if_pos (by omega), z1l (by omega) hxs2]
  simp only [zaa, zag, e1]; have e3 : zfc Nat.lor .u32 (c : Int) ((x * 2 ^ s % 4294967296 : Nat) : Int) = some (.int .u32 ((x * 2 ^ s % 4294967296 + c : Nat) : Int)) := by
   rw [zdj (k := .u32) (x := c) (y := x * 2 ^ s % 4294967296) (show c < kHi .u32 by show c < 4294967296; omega) (by show x * 2 ^ s % 4294967296 < 4294967296; exact ybz _ (by decide)), hlor]
  rw [e3]; simp only [zaa, zag]; intro _ _ _; rw [s1]; simp (disch := omega) only [zaa, wrap_i64]
  rw [show (i : Int) + 1 = ((i + 1 : Nat) : Int) by omega, g3b]
  simp only [zaa, e2]; intro _ _ _; rw [s4]; simp only [zaa]; refine ih (i + 1) t2 _ _ (by omega) ((ht.off hb s3).off hb s6) ((hoff.trans s3).trans s6) s5 (by simp [hP]) hhigh (zej hPl hsum) ?_
  rw [zc9, hP, zfp hx, zc9, yap, <- hval]; have : (l.take i).length = i := by simp; omega
  rw [this, Nat.pow_succ]; have hd := ybi (x * 2 ^ s) 4294967296
  have e4 : 4294967296 ^ i * x * 2 ^ s = 4294967296 ^ i * (4294967296 * (x * 2 ^ s / 4294967296) + x * 2 ^ s % 4294967296) := by rw [hd, yak]
  rw [e4, yan, yan]; have e5 : 4294967296 ^ i * 4294967296 * (x * 2 ^ s / 4294967296) = 4294967296 ^ i * (4294967296 * (x * 2 ^ s / 4294967296)) := by rw [yak]
  rw [e5]; omega
theorem zrx {l : List Nat} {v : zab} {s : Nat} {Q : zay} (hv : RSl t 1 (zas .u32 l) v) (hl : l.length < 900000) (hlt : zau 4294967296 l) (hs : s < 32)
  (hQ : ∀ t' b r, TLe t t' -> t.get b = none -> C13.base <= b -> Own t' b .u32 r -> r.length = l.length + 1 -> zau 4294967296 r -> val 4294967296 r = val 4294967296 l * 2 ^ s -> Q (.slice b 0 (l.length + 1) (l.length + 1)) t') : Wc C13 F 215 [v, .int .i64 s] t Q := by
 refine w215 _ _ ?_
 simp (disch := omega) only [t215, wpT, hv.len, zaa, zag, zat, wrap_i64]
 intro b hb hbase; obtain ⟨t', g1, g2, g3, g4⟩ := zjn (C := C13) (k := .u32) zk4 rfl zd5 rfl rfl (by decide) (n := l.length + 1) (by omega) hb
 rw [show (l.length : Int) + 1 = ((l.length + 1 : Nat) : Int) by omega, g1]
 simp only [zaa]; have := zvj hv hl hlt hs hbase hb (fun t' r a _ c d e f => hQ t' b r a hb hbase c d e f) l.length 0 t' [] 0 (by omega) g3 g4 (by simpa [List.replicate_succ] using g2) rfl (Nat.pow_pos (by decide)) (fun x hx => by cases hx) (by simp [val])
 exact this
theorem zzh {l : List Nat} {v : zab} {b d : Nat} {Q : zay} (hv : RSl t 1 (zas .u32 l) v) (hl : l.length < 900000) (hlt : zau 4294967296 l) (hd : d < 4294967296) (hd0 : 0 < d) (hbase : C13.base <= b) (hb : t.get b = none)
  (hQ : ∀ t' v' q r, TLe t t' -> RSl t' 1 (zas .u32 (zco q)) v' -> zau 4294967296 q -> q.length = l.length -> r < d -> val 4294967296 l = val 4294967296 q * d + r -> Q (.tup [v', .int .u32 (r : Nat)]) t') :
  ∀ (i : Nat) (t' : Tr zam) (q : List Nat) (r : Nat), i <= l.length -> TLe t t' -> Own t' b .u32 (List.replicate i 0 ++ q) -> q.length = l.length - i -> zau 4294967296 q -> r < d -> val 4294967296 (l.drop i) = val 4294967296 q * d + r →
  jp 152 2 [v, .int .u32 d, .slice b 0 l.length l.length, .int .u32 r, .int .i64 ((i : Int) - 1)] t' Q := by
 intro i; induction i with
 | zero =>
  intro t' q r _ ht ho hq hql hr hval; refine zzd9 _ _ _ _ _ ?_
  simp only [z5t, wpT, zdi]; rw [if_neg (by omega)]
  rw [List.replicate_zero, List.nil_append] at ho; have hread := ho.all (yal _)
  have hqlen : q.length = l.length := by omega
  rw [hqlen] at hread; obtain ⟨v', h1, h2⟩ := zkm (l := q) (by omega) hread
  simp only [q174, h1, zaa]; exact hQ t' v' q r ht h2 hql hqlen hr (by simpa using hval)
 | succ i ih =>
  intro t' q r hi ht ho hq hql hr hval; obtain ⟨x, hx⟩ := getElem?_of_lt (l := l) (i := i) (by omega)
  have hxlt : x < 4294967296 := zbi hlt hx
  obtain ⟨c, off, g1, g2⟩ := (hv.mono ht).idx zdl hx
  have e1 : ((i + 1 : Nat) : Int) - 1 = (i : Int) := by omega
  have g3 := zkw zdl (b := b) (n := l.length) (cap := l.length) (j := i) (by omega)
  have hlen0 : (List.replicate (i + 1) 0 ++ q).length = l.length := by simp; omega
  have hdiv := zzcj (t := t') hr hxlt hd
  have hqlt : (r * 4294967296 + x) / d < 4294967296 := z2k hr hxlt
  have hrlt : (r * 4294967296 + x) % d < d := ybz _ hd0
  obtain ⟨t1, s1, s2, s3⟩ := ho.store (C := C13) hbase (j := i) (by rw [hlen0]; omega) ((r * 4294967296 + x) / d) zd5 rfl
  have hs2 : (List.replicate (i + 1) 0 ++ q).set i ((r * 4294967296 + x) / d) = List.replicate i 0 ++ ((r * 4294967296 + x) / d :: q) := by
   rw [List.replicate_succ', yba, set_append_right (by simp)]; rfl
  rw [hs2] at s2; rw [e1]; refine zzd9 _ _ _ _ _ ?_
  simp (disch := omega) only [z5t, wpT, zdi, g1, g2, zaa, zag, q173, hdiv, zao, zab.asTup, zad, g3, wrap_i64]
  rw [if_pos (by omega)]
  simp only [zbe, yaa, yab, zaa, zag]; intro _ _ _; rw [s1]; simp only [zaa]; refine ih t1 _ _ (by omega) (ht.off hb s3) s2 (by simp; omega) ?_ hrlt ?_
  ·intro y hy
   rcases yat.1 hy with rfl | hy
   ·exact hqlt
   ·exact hql y hy
  ·rw [zcc hx]
   simp only [val]; rw [hval]; have hd1 := ybi (r * 4294967296 + x) d
   rw [yap, yan, yak]; rw [yai ((r * 4294967296 + x) / d) d]
   rw [yai 4294967296 r]; omega
theorem zwt {l : List Nat} {v : zab} {d : Nat} {Q : zay} (hv : RSl t 1 (zas .u32 l) v) (hl : l.length < 900000) (hlt : zau 4294967296 l) (hd : d < 4294967296) (hd0 : 0 < d)
  (hQ : ∀ t' v' q r, TLe t t' -> RSl t' 1 (zas .u32 (zco q)) v' -> zau 4294967296 q -> q.length = l.length -> r < d -> val 4294967296 l = val 4294967296 q * d + r -> Q (.tup [v', .int .u32 (r : Nat)]) t') : Wc C13 F 152 [v, .int .u32 d] t Q := by
 refine w152 _ _ ?_
 simp (disch := omega) only [t152, wpT, hv.len, zaa, zag, zat, wrap_i64]
 intro b hb hbase; obtain ⟨t', g1, g2, g3, g4⟩ := zjn (C := C13) (k := .u32) zk4 rfl zd5 rfl rfl (by decide) (n := l.length) (by omega) hb
 rw [g1]; simp only [zaa]; exact zzh hv hl hlt hd hd0 hbase hb hQ l.length t' [] 0 (yal _) g3 (by simpa using g2) (by simp) (fun x hx => by cases hx) hd0 (by simp [val])
end Go.Proofs
namespace Go.Proofs
open Go Go.Am
variable [zc6]
theorem z8x {l : List Nat} {y : zab} {box : Nat} {v : zab} {Q : zay} {I : Nat -> Tr zam -> Prop} (hl : l.length < 1000000)
  (hr : ∀ k t, I k t -> za2 C13 200 ⟨0, t⟩ (.ptr box 0) = some v /\ RSl t 1 (zas .u32 l) v)
  (hy : ∀ k x t, l[k]? = some x -> I (k + 1) t -> ∀ R : zay, (∀ t', I k t' -> R (.bool true) t') -> zd0 (zw7 y [.int .u32 (x : Nat)]) fun p => Wq C13 F zbb p.1 p.2 t R)
  (hQ : ∀ t, I 0 t -> Q (.tup []) t) : ∀ (k : Nat) (t : Tr zam), k <= l.length -> I k t -> jp 175 2 [y, .ptr box 0, .int .i64 ((k : Int) - 1)] t Q := by
 intro k; induction k with
 | zero =>
  intro t _ h; refine zzd8 _ _ _ ?_
  simp only [z5s, wpT, zdi]; rw [if_neg (by omega)]
  exact hQ t h
 | succ k ih =>
  intro t hk h; obtain ⟨g0, hv⟩ := hr _ _ h
  obtain ⟨x, hx⟩ := getElem?_of_lt (l := l) (i := k) (by omega)
  obtain ⟨c, off, g1, g2⟩ := hv.idx zdl hx
  have e1 : ((k + 1 : Nat) : Int) - 1 = (k : Int) := by omega
  rw [e1]; refine zzd8 _ _ _ ?_
  simp (disch := omega) only [z5s, wpT, zdi, g0, g1, g2, zaa, zag, wrap_i64]
  rw [if_pos (by omega)]
  refine hy k x t hx h _ fun t' ht' => ?_
  simp only [zab.asBool, zaa, Bool.not_true]; rw [if_neg (by simp)]
  exact ih t' (by omega) ht'
theorem zzge {l : List Nat} {y : zab} {box : Nat} {v : zab} {Q : zay} {t : Tr zam} {I : Nat -> Tr zam -> Prop} (hl : l.length < 1000000)
  (hr : ∀ k t, I k t -> za2 C13 200 ⟨0, t⟩ (.ptr box 0) = some v /\ RSl t 1 (zas .u32 l) v)
  (hy : ∀ k x t, l[k]? = some x -> I (k + 1) t -> ∀ R : zay, (∀ t', I k t' -> R (.bool true) t') -> zd0 (zw7 y [.int .u32 (x : Nat)]) fun p => Wq C13 F zbb p.1 p.2 t R)
  (hQ : ∀ t, I 0 t -> Q (.tup []) t) (h : I l.length t) : Wc C13 F 175 [y, .ptr box 0] t Q := by
 obtain ⟨g0, hv⟩ := hr _ _ h
 refine w175 _ _ ?_
 simp (disch := omega) only [t175, wpT, g0, hv.len, zat, zaa, zag, wrap_i64]
 exact z8x hl hr hy hQ l.length t (yal _) h
end Go.Proofs
namespace Go.Am
open Go Go.RowKit
section
variable {t tf : Tr zam} {C : Ctx}
theorem ze7 {n : Nat} (hn : t.get n = none) (q : zam) : TLe t (t.set n q) /\ Off n t (t.set n q) :=
 ⟨fun c u hc => by rw [Tr.get_set, if_neg (by intro e; rw [e, hn] at hc; cases hc)]; exact hc, fun c hc => by rw [Tr.get_set, if_neg hc]⟩
theorem z3t {sz n : Nat} {cl : List (List zab)} {t' : Tr zam} {lo : Option Lo} (hl : ∀ (i : Nat) cs, cl[i]? = some cs -> cs.length = sz) (h : t'.get n = some (.cells (Tr.ofList cl.flatten) (zbp cl.flatten) lo)) (hlo : lo = none \/ ∃ x, lo = some x /\ x.es = sz) {k : Nat} (hk : cl.length = k) : zna t' sz (.slice n 0 k k) cl := by
 subst hk; exact zqj hl h hlo
theorem z69 {T el sz n : Nat} {y z : ATy} {ps : List (Nat × zab)} {cl : List (List zab)} (hT : C.tys.get T = some y) (hel : y.desc.asSlice = some el) (hz : C.tys.get el = some z) (hs : z.size = sz) (h0 : zbp z.zero = sz) (hn : n * sz < 1000000)
  (hfill : zob (fun i => some (i * sz, sz)) ps (zut z.zero n) = some cl.flatten) (hcl : ∀ (i : Nat) cs, cl[i]? = some cs -> cs.length = sz) (hlen : cl.length = n) {b : Nat} (hb : t.get b = none) :
  ∃ t', zaz C T n ps ⟨b, t⟩ = some (.slice b 0 n n, ⟨b + 1, t'⟩) /\ zna t' sz (.slice b 0 n n) cl /\ TLe t t' /\ Off b t t' := by
 refine ⟨t.set b (.cells (Tr.ofList cl.flatten) (zbp cl.flatten) none), ?_, z3t hcl (by rw [Tr.get_set, if_pos rfl]) (.inl rfl) hlen, (ze7 hb _).1, (ze7 hb _).2⟩
 unfold zaz; rw [hT, zad, hel, zad, hz, zad]; have : (Nat.blt (n * z.size) 1000000 && Nat.beq (zbp z.zero) z.size) = true := by
  rw [hs, h0, zcz.2 hn, zck.2 rfl]; rfl
 rw [this, zar, hs, hfill]; rfl
def zb3 (cd : Lo) (base : Nat) (tf t : Tr zam) (sz : Nat) (l : List D) (v : zab) : Prop :=
 (v = .nilslice /\ l = []) \/ ∃ b cl c, v = .slice b 0 l.length l.length /\ base <= b /\ tf.get b = none /\ t.get b = some (.cells c (l.length * sz) (some cd)) ∧
  (∀ (i : Nat) cs, cl[i]? = some cs -> cs.length = sz /\ ∀ (j : Nat) a, cs[j]? = some a -> c.get (i * sz + j) = some a) /\ RDs tf l cl
abbrev Loose (base : Nat) (tf t : Tr zam) (sz : Nat) (l : List D) (v : zab) : Prop := zb3 (.sz sz) base tf t sz l v
def zm0 (v : zab) (b : Nat) : Prop := ∃ o n c, v = .slice b o n c
theorem zwk {b : Nat} : ¬ zm0 .nilslice b := fun ⟨_, _, _, h⟩ => by cases h
theorem zec {b c o n k : Nat} : zm0 (.slice b o n k) c ↔ c = b := ⟨fun ⟨_, _, _, h⟩ => by cases h; rfl, fun h => by subst h; exact ⟨_, _, _, rfl⟩⟩
theorem zb3.read {cd : Lo} {base sz : Nat} {l : List D} {v : zab} (hcd : cd.es = sz) (h : zb3 cd base tf t sz l v) (ht : TLe tf t) : RSl t sz l v := by
 rcases h with ⟨rfl, rfl⟩ | ⟨b, cl, c, rfl, _, _, h1, h2, h3⟩
 ·exact ⟨[], .inl ⟨rfl, rfl⟩, zik.2 rfl⟩
 ·have hlen := h3.length
  refine ⟨cl, .inr ⟨b, 0, l.length, by rw [hlen], by omega, ⟨c, _, _, h1, .inr ⟨_, rfl, hcd⟩⟩, fun i cs hi => ⟨(h2 i cs hi).1, c, _, _, h1, fun j a hj => ?_⟩⟩, RDs.mono ht _ _ h3⟩
  rw [yax]; exact (h2 i cs hi).2 j a hj
theorem zb3.len {cd : Lo} {base sz : Nat} {l : List D} {v : zab} (h : zb3 cd base tf t sz l v) : zbw v = some (.int .i64 (l.length : Int)) := by
 rcases h with ⟨rfl, rfl⟩ | ⟨b, cl, c, rfl, _⟩
 ·rfl
 ·rfl
theorem zb3.none {cd : Lo} {base sz : Nat} {l : List D} {v : zab} (h : zb3 cd base tf t sz l v) {b : Nat} (hb : zm0 v b) : tf.get b = none /\ base <= b /\ ∃ y, t.get b = some y := by
 rcases h with ⟨rfl, rfl⟩ | ⟨c, cl, x, rfl, h1, h2, h3, _⟩
 ·exact absurd hb zwk
 ·rw [zec] at hb; subst hb; exact ⟨h2, h1, _, h3⟩
theorem zmb {T U el sz : Nat} {cd : Lo} (hT : zz5 C T el sz) (hU : ∃ u, C.tys.get U = some u /\ Nat.beq u.desc.tag 1 = false) (hcd : ∀ z, C.tys.get el = some z -> zdw el z = cd) {l m : List D} {v x : zab} {cm : List (List zab)} (hv : zb3 cd C.base tf t sz l v) (hall : ∀ (i : Nat) cs, cm[i]? = some cs -> cs.length = sz) (hx : ∀ n, zit ⟨n, t⟩ sz cm.length x = some cm.flatten /\ znq x = some cm.length) (hm : RDs tf m cm) (hone : ∀ a ∈ cm.flatten, zab.one a = true) (hpos : 0 < m.length) (hl : l.length + m.length < 400000) {n : Nat} (hn : t.get n = none) (hbase : C.base <= n) (ht : TLe tf t) :
  ∃ t', zcd C T U v x ⟨n, t⟩ = some (.slice n 0 (l.length + m.length) (l.length + m.length), ⟨n + 1, t'⟩) /\ zb3 cd C.base tf t' sz (l ++ m) (.slice n 0 (l.length + m.length) (l.length + m.length)) /\ TLe tf t' /\ (∀ c, c ≠ n -> ¬ zm0 v c -> t'.get c = t.get c) := by
 obtain ⟨⟨y, hy1, hy2, hy3⟩, ⟨z, hz1, hz2, hz3, hz4, hz5⟩⟩ := hT
 have hcode := hcd z hz1
 have hcm := hm.length
 obtain ⟨hf, hlen⟩ := hx n
 obtain ⟨u, hu1, hu2⟩ := hU
 have hflat := z1p hall
 have hfl : zbp cm.flatten = cm.length * sz := by rw [zav]; exact hflat
 have hfn : tf.get n = none := by
  cases hq : tf.get n with
  | none => rfl
  | some u => rw [ht _ _ hq] at hn; cases hn
 have base : zcd C T U v x ⟨n, t⟩ = (match v.asSlice with
  | some s => bif Nat.ble (s.2.2.1 + cm.length) s.2.2.2 then zg9 C ⟨n, t⟩ z cm.length cm.flatten s else zh7 C ⟨n, t⟩ el z cm.length cm.flatten s
  | none => zah (Nat.beq v.tag 5) (zfv ⟨n, t⟩ el z cm.length cm.flatten)) := by
  unfold zcd zih; rw [hy1, zad, hu1, zad, hu2]; simp only [ybm, zar]; rw [hy2, zad, hz1, zad, hlen, zad, hz2, hf, zad]; rfl
 have ok : zlu z l.length l.length cm.length cm.flatten = true := by
  unfold zlu; have h1 : Nat.blt (l.length + cm.length + l.length) 1000000000 = true := zcz.2 (by omega)
  have h2 : Nat.blt ((l.length + cm.length + l.length) * z.bytes) 1000000000 = true := zcz.2 (by
   have := ycc (show l.length + cm.length + l.length <= 800000 by omega) hz4
   omega)
  have h3 : Nat.blt z.bytes 1000000000 = true := zcz.2 (by omega)
  have h4 : (!Nat.beq z.size 0) = true := by
   cases hq : Nat.beq z.size 0 with
   | true => have := zck.1 hq; omega
   | false => rfl
  have h5 : Nat.beq (zbp cm.flatten) (cm.length * z.size) = true := by rw [hfl, hz2]; exact zck.2 rfl
  have h6 : Nat.beq (zbp z.zero) z.size = true := by rw [hz3, hz2]; exact zck.2 rfl
  rw [h1, h2, h3, h4, h5, h6]; rfl
 rcases hv with ⟨rfl, rfl⟩ | ⟨b, cl, c, rfl, hb0, hb1, hb2, hb3, hb4⟩
 ·refine ⟨t.set n (.cells (Tr.ofList cm.flatten) (zbp cm.flatten) (some cd)), ?_, .inr ⟨n, cm, Tr.ofList cm.flatten, by simp, hbase, hfn, ?_, fun i cs hi => ⟨hall i cs hi, fun j a hj => ?_⟩, by simpa using hm⟩, ?_, fun c hc _ => (ze7 hn _).2 c hc⟩
  ·rw [base]
   simp only [zab.asSlice]; show zah true (zfv ⟨n, t⟩ el z cm.length cm.flatten) = _
   rw [zar]; unfold zfv; have : Nat.beq cm.length 0 = false := by
    cases hq : Nat.beq cm.length 0 with
    | true => have := zck.1 hq; omega
    | false => rfl
   have ok : zlu z 0 0 cm.length cm.flatten = true := ok
   rw [this, cond_false, ok, zar, hcm, hcode]; simp only [yay, yax]; rfl
  ·rw [Tr.get_set, if_pos rfl, hfl, hcm]; simp
  ·rw [Tr.get_ofList]; exact zt8 hall i j cs a hi hj
  ·exact ht.trans (ze7 hn _).1
 ·have hcl := hb4.length
  have hbn : b ≠ n := by intro e; rw [e, hn] at hb2; cases hb2
  refine ⟨(t.del b).set n (.cells (c.setMany cm.flatten (l.length * z.size)) ((l.length + cm.length) * z.size) (some cd)), ?_, .inr ⟨n, cl ++ cm, c.setMany cm.flatten (l.length * z.size), by simp, hbase, hfn, ?_, fun i cs hi => ?_, ?_⟩, fun k u hk => ?_, fun k hk1 hk2 => ?_⟩
  ·rw [base]
   simp only [zab.asSlice]; have : Nat.ble (l.length + cm.length) l.length = false := by
    cases hq : Nat.ble (l.length + cm.length) l.length with
    | true => have := zhm.1 hq; omega
    | false => rfl
   rw [this, cond_false]; unfold zh7; simp only []; rw [show ∀ x, (!(Nat.beq 0 1 && x)) = true from fun _ => rfl, zar, ok, zar]
   unfold zaq; rw [hb2, zad]; simp only [zam.asCells, zad]; unfold zhx; simp only []; have g1 : loEq cd (zdw el z) = true := by rw [hcode]; exact z67.2 rfl
   have g2 : Nat.ble (l.length * z.size) (l.length * sz) = true := zhm.2 (by rw [hz2]; exact yal _)
   have g3 : Nat.ble (l.length * sz) ((l.length + cm.length) * z.size) = true := zhm.2 (by rw [hz2]; exact yaj _ (by omega))
   have g4 : zgv zab.one cm.flatten = true := by rw [zda]; exact ybc.2 hone
   have g5 : (!Nat.blt b C.base) = true := by
    cases hq : Nat.blt b C.base with
    | true => have := zcz.1 hq; omega
    | false => rfl
   rw [g1, g2, g3, g4, g5]; simp only [hz2, hcm]; rfl
  ·rw [Tr.get_set, if_pos rfl, hz2, hcm, yah]
  ·rw [List.getElem?_append] at hi
   split at hi
   ·rename_i hlt
    obtain ⟨k1, k2⟩ := hb3 i cs hi
    refine ⟨k1, fun j a hj => ?_⟩
    have hjl : j < sz := by rw [<- k1]; exact (yad.1 hj).1
    have : i * sz + j < l.length * sz := by
     have := yaj sz (show i + 1 <= l.length by omega)
     rw [yap] at this; omega
    rw [Tr.get_setMany, hz2, if_neg (by omega)]
    exact k2 j a hj
   ·rename_i hge
    have k1 := hall _ cs hi
    refine ⟨k1, fun j a hj => ?_⟩
    have hf1 := zt8 hall _ j cs a hi hj
    have hlt := (yad.1 hf1).1
    have e : i * sz = l.length * sz + (i - cl.length) * sz := by rw [<- yap]; congr 1; omega
    rw [Tr.get_setMany, hz2, if_pos (by omega), show i * sz + j - l.length * sz = (i - cl.length) * sz + j by omega]
    exact hf1
  ·have app : ∀ {l m : List D} {cl cm : List (List zab)}, RDs tf l cl -> RDs tf m cm -> RDs tf (l ++ m) (cl ++ cm) := by
    intro l; induction l with
    | nil => intro m cl cm h k; rw [zik] at h; subst h; exact k
    | cons d l ih =>
     intro m cl cm h k; rw [zim] at h; obtain ⟨c, r, rfl, h1, h2⟩ := h
     exact zim.2 ⟨c, r ++ cm, rfl, h1, ih h2 k⟩
   exact app hb4 hm
  ·have h1 : k ≠ b := by intro e; rw [e, hb1] at hk; cases hk
   have h2 : k ≠ n := by intro e; rw [e, hfn] at hk; cases hk
   rw [Tr.get_set, if_neg h2, Tr.get_del, if_neg h1]; exact ht _ _ hk
  ·rw [Tr.get_set, if_neg hk1, Tr.get_del, if_neg (fun e => hk2 (zec.2 e))]
theorem zuo {T el sz : Nat} {cd : Lo} (hT : zz5 C T el sz) (hcd : ∀ z, C.tys.get el = some z -> zdw el z = cd) {l m : List D} {v x : zab} {cm : List (List zab)} (hv : zb3 cd C.base tf t sz l v) (hx : zna t sz x cm) (hm : RDs tf m cm) (hone : ∀ a ∈ cm.flatten, zab.one a = true) (hpos : 0 < m.length) (hl : l.length + m.length < 400000) {n : Nat} (hn : t.get n = none) (hbase : C.base <= n) (ht : TLe tf t) :
  ∃ t', zcd C T T v x ⟨n, t⟩ = some (.slice n 0 (l.length + m.length) (l.length + m.length), ⟨n + 1, t'⟩) /\ zb3 cd C.base tf t' sz (l ++ m) (.slice n 0 (l.length + m.length) (l.length + m.length)) /\ TLe tf t' /\ (∀ c, c ≠ n -> ¬ zm0 v c -> t'.get c = t.get c) := by
 obtain ⟨y, hy1, hy2, hy3⟩ := hT.ty
 exact zmb hT ⟨y, hy1, hy3⟩ hcd hv hx.len (fun n => hx.first (n := n)) hm hone hpos hl hn hbase ht
theorem zb3.freeze {cd : Lo} {base sz : Nat} {l : List D} {v : zab} (hcd : cd.es = sz) (h : zb3 cd base tf t sz l v) (ht : TLe tf t) : ∃ tf', TLe tf tf' /\ TLe tf' t /\ RSl tf' sz l v /\ ∀ b, ¬ zm0 v b -> tf'.get b = tf.get b := by
 rcases h with ⟨rfl, rfl⟩ | ⟨b, cl, c, rfl, h0, h1, h2, h3, h4⟩
 ·exact ⟨tf, TLe.refl _, ht, ⟨[], .inl ⟨rfl, rfl⟩, zik.2 rfl⟩, fun _ _ => rfl⟩
 ·have hlen := h4.length
  refine ⟨tf.set b (.cells c (l.length * sz) (some cd)), (ze7 h1 _).1, fun k u hk => ?_, ⟨cl, .inr ⟨b, 0, l.length, by rw [hlen], by omega, ⟨c, _, _, by rw [Tr.get_set, if_pos rfl], .inr ⟨_, rfl, hcd⟩⟩, fun i cs hi => ⟨(h3 i cs hi).1, c, _, _, (by rw [Tr.get_set, if_pos rfl]), fun j a hj => ?_⟩⟩, RDs.mono (ze7 h1 _).1 _ _ h4⟩, fun k hk => by rw [Tr.get_set, if_neg (fun e => hk (zec.2 e))]⟩
  ·rw [Tr.get_set] at hk
   split at hk
   ·rename_i e; subst e; cases hk; exact h2
   ·exact ht _ _ hk
  ·rw [yax]; exact (h3 i cs hi).2 j a hj
end
end Go.Am
namespace Go.Am
open Go Go.RowKit
def Cel (t : Tr zam) (b : Nat) (lo : Option Lo) (cs : List zab) : Prop := ∃ c, t.get b = some (.cells c cs.length lo) /\ ∀ (j : Nat) a, cs[j]? = some a -> c.get j = some a
def z2y (cs : List zab) (j : Nat) (l : List zab) : List zab := cs.take j ++ (l ++ cs.drop (j + l.length))
theorem z6p {cs l : List zab} {j : Nat} (h : j + l.length <= cs.length) : (z2y cs j l).length = cs.length := by
 unfold z2y; simp; omega
theorem zv1 {cs l : List zab} {j : Nat} (h : j + l.length <= cs.length) (k : Nat) : (z2y cs j l)[k]? = if j <= k /\ k < j + l.length then l[k - j]? else cs[k]? := by
 have ht : (cs.take j).length = j := by simp; omega
 unfold z2y; rw [List.getElem?_append, ht]; split
 ·rename_i h1
  rw [if_neg (by omega), ycg, if_pos h1]
 ·rename_i h1
  rw [List.getElem?_append]; split
  ·rw [if_pos (by omega)]
  ·rw [if_neg (by omega), ycf]; congr 1; omega
section
variable {t tf : Tr zam} {C : Ctx} {b : Nat} {lo : Option Lo} {cs : List zab}
theorem Cel.at (h : Cel t b lo cs) : At t b 0 cs := by
 obtain ⟨c, h1, h2⟩ := h
 exact ⟨c, _, _, h1, fun j a hj => by rw [yax]; exact h2 j a hj⟩
theorem Cel.off (h : Cel t b lo cs) {t' : Tr zam} (k : t'.get b = t.get b) : Cel t' b lo cs := by
 obtain ⟨c, h1, h2⟩ := h
 exact ⟨c, by rw [k]; exact h1, h2⟩
theorem Cel.load1 (h : Cel t b lo cs) {j : Nat} {a : zab} {ty : Nat} {y : ATy} (hy : C.tys.get ty = some y) (ha : y.desc.isAgg = false) (hj : cs[j]? = some a) : za2 C ty ⟨0, t⟩ (.ptr b j) = some a := by
 have := h.at.load1 hy ha hj
 rw [yax] at this; exact this
theorem Cel.store (h : Cel t b lo cs) (hb : C.base <= b) {j T : Nat} {y : ATy} {v : zab} (hT : C.tys.get T = some y) (hl : v.cells.length = y.size) (hj : j + v.cells.length <= cs.length) (hone : zgv zab.one v.cells = true) :
  ∃ t', (∀ n, zb6 C T (.ptr b j) v ⟨n, t⟩ = some (zba, ⟨n, t'⟩)) /\ Cel t' b lo (z2y cs j v.cells) /\ Off b t t' := by
 obtain ⟨c, h1, h2⟩ := h
 refine ⟨t.set b (.cells (c.setMany v.cells j) cs.length lo), fun n => ?_, ⟨c.setMany v.cells j, ?_, fun k a hk => ?_⟩, fun d hd => by rw [Tr.get_set, if_neg hd]⟩
 ·unfold zb6
  rw [hT, zad]; simp only [zab.asPtr, zad]; have e1 : Nat.beq (zbp v.cells) y.size = true := by rw [zav, hl]; exact zck.2 rfl
  rw [e1, zar]; unfold zd3 zaq; have e2 : (!Nat.blt b C.base) = true := by
   cases hq : Nat.blt b C.base with
   | true => have := zcz.1 hq; omega
   | false => rfl
  rw [e2, zar, h1, zad]; simp only [zam.asCells, zad]; have e3 : Nat.ble (j + zbp v.cells) cs.length = true := by rw [zav]; exact zhm.2 hj
  rw [e3, hone]; rfl
 ·rw [Tr.get_set, if_pos rfl, z6p hj]
 ·rw [zv1 hj] at hk
  rw [Tr.get_setMany]; split
  ·rename_i e; rw [if_pos e] at hk; exact hk
  ·rename_i e; rw [if_neg e] at hk; exact h2 k a hk
theorem Cel.store1 (h : Cel t b lo cs) (hb : C.base <= b) {j T : Nat} {y : ATy} {v : zab} (hT : C.tys.get T = some y) (hs : y.size = 1) (hv : v.cells = [v]) (hone : zab.one v = true) (hj : j < cs.length) :
  ∃ t', (∀ n, zb6 C T (.ptr b j) v ⟨n, t⟩ = some (zba, ⟨n, t'⟩)) /\ Cel t' b lo (cs.set j v) /\ Off b t t' := by
 obtain ⟨t', h1, h2, h3⟩ := h.store hb hT (v := v) (j := j) (by rw [hv, hs]; rfl) (by rw [hv]; exact hj) (by rw [hv]; show (bif zab.one v then true else false) = true; rw [hone]; rfl)
 refine ⟨t', h1, ?_, h3⟩
 have e : z2y cs j v.cells = cs.set j v := by
  rw [hv]; apply List.ext_getElem?
  intro k; rw [zv1 (by exact hj), ybx]
  by_cases e : j = k
  ·subst e; rw [if_pos (by simp), if_pos rfl, if_pos hj]; simp
  ·rw [if_neg (by simp; omega), if_neg e]
 rw [e] at h2; exact h2
theorem zzfg {b : Nat} (hb : t.get b = none) (cs : List zab) (lo : Option Lo) : ∃ t', zaw ⟨b, t⟩ cs lo = ⟨b + 1, t'⟩ /\ Cel t' b lo cs /\ TLe t t' /\ Off b t t' :=
 ⟨t.set b (.cells (Tr.ofList cs) (zbp cs) lo), rfl, ⟨Tr.ofList cs, by rw [Tr.get_set, if_pos rfl, zav], fun j a hj => by rw [Tr.get_ofList]; exact hj⟩, (ze7 hb _).1, (ze7 hb _).2⟩
theorem zxb {b T : Nat} {y : ATy} (hT : C.tys.get T = some y) (hb : t.get b = none) : ∃ t', znl C T ⟨b, t⟩ = some (.ptr b 0, ⟨b + 1, t'⟩) /\ Cel t' b none y.zero /\ TLe t t' /\ Off b t t' := by
 obtain ⟨t', h1, h2, h3, h4⟩ := zzfg hb y.zero none
 refine ⟨t', ?_, h2, h3, h4⟩
 unfold znl; rw [hT, zad, <- h1]
end
end Go.Am
namespace Go.Am
open Go Go.RowKit
structure Thg where
 blks : List Nat
 ok : Tr zam -> Tr zam -> Prop
 keep : ∀ {tf t tf' t' : Tr zam}, ok tf t -> TLe tf tf' -> (∀ k ∈ blks, t'.get k = t.get k /\ tf'.get k = none) -> ok tf' t'
 live : ∀ {tf t : Tr zam}, ok tf t -> ∀ k ∈ blks, ∃ y, t.get k = some y
structure Objs (base : Nat) (tf t : Tr zam) (l : List Thg) : Prop where
 tle : TLe tf t
 nodup : (l.flatMap Thg.blks).Nodup
 ok : ∀ o ∈ l, o.ok tf t
 low : ∀ k ∈ l.flatMap Thg.blks, base <= k /\ tf.get k = none
section
variable {base : Nat} {tf t : Tr zam} {l A B : List Thg} {o o' : Thg}
end
end Go.Am
namespace Go.Am
open Go Go.RowKit
section
variable {t tf : Tr zam} {C : Ctx}
def z9b (l : List Nat) : List zab := l.map fun (n : Nat) => zab.int .u8 (n : Int)
end
end Go.Am
namespace Go.Am
open Go
section
variable {C : Ctx} {t tf : Tr zam}
def ziu (k : IntKind) (l : List Nat) : List (List zab) := l.map fun (x : Nat) => [zab.int k (x : Int)]
theorem zil {k : IntKind} : ∀ {l : List Nat} {cl : List (List zab)}, RDs t (zas k l) cl ↔ cl = ziu k l
 | [], cl => by
  show RDs t [] cl ↔ cl = []
  exact zik
 | x :: l, cl => by
  show RDs t (.int k (x : Int) :: zas k l) cl ↔ cl = [.int k (x : Int)] :: ziu k l
  rw [zim]; constructor
  ·rintro ⟨c, r, rfl, h1, h2⟩
   rw [z9t] at h1; rw [h1, zil.1 h2]
  ·rintro rfl
   exact ⟨_, _, rfl, z9t.2 rfl, zil.2 rfl⟩
theorem zie {k : IntKind} : ∀ (l : List Nat), (ziu k l).flatten = l.map fun (x : Nat) => zab.int k (x : Int)
 | [] => rfl
 | x :: l => by
  show [zab.int k (x : Int)] ++ (ziu k l).flatten = _
  rw [zie l]; rfl
theorem zsq {k : IntKind} {l : List Nat} : (ziu k l).length = l.length := by simp [ziu]
theorem z3y {k : IntKind} {l : List Nat} (i : Nat) (cs : List zab) (h : (ziu k l)[i]? = some cs) : cs.length = 1 := by
 unfold ziu at h; rw [yav] at h
 cases hx : l[i]? with
 | none => rw [hx] at h; cases h
 | some x => rw [hx] at h; cases h; rfl
theorem zzq (l : List Nat) (h : zau 256 l) : zd7 zjd (z9b l) = some l := by
 induction l with
 | nil => rfl
 | cons x l ih =>
  have e : zjd (.int .u8 (x : Int)) = some x := by
   unfold zjd; have e1 : ziv (x : Int) = some x := rfl
   simp only [zab.asIntK, zad]; rw [zev.2 rfl, zar, e1, zad, zcz.2 (h x (by simp))]; rfl
  show zd7 zjd (.int .u8 (x : Int) :: z9b l) = _
  rw [zcb, e, zad, ih fun y hy => h y (by simp [hy]), zad]
theorem z1x {S Dt el : Nat} {l : List Nat} {v : zab} {yS yD yE : ATy} (hS : C.tys.get S = some yS) (hD : C.tys.get Dt = some yD) (h1 : yD.desc.asInt = none) (h2 : yD.desc.isString = true) (h3 : yS.desc.asSlice = some el) (h4 : C.tys.get el = some yE) (h5 : yE.desc.asInt = some .u8)
  (hv : RSl t 1 (zas .u8 l) v) (hlt : zau 256 l) : zkk C S Dt ⟨0, t⟩ v = some (.str l) := by
 obtain ⟨cl, g1, g2⟩ := hv
 rw [zil] at g2; subst g2; have hf := (g1.first (n := 0)).1
 have htag : Nat.beq v.tag 2 = false := by
  rcases g1 with ⟨rfl, _⟩ | ⟨b, off, cap, rfl, _⟩ <;> rfl
 unfold zkk znc; rw [hS, zad, hD, zad, h1]; simp only []; rw [h2, zar, htag, cond_false, h3, zad, h4, zad, h5, zad, zev.2 rfl, zar]; unfold zh0; rcases g1 with ⟨rfl, hn⟩ | ⟨b, off, cap, rfl, _⟩
 ·have : l = [] := by
   have := congrArg List.length hn
   rw [zsq] at this; exact ybd.1 this
  subst this; rfl
 ·unfold zit at hf
  simp only [zab.asSlice, Nat.mul_one] at hf ⊢
  rw [zac] at hf; obtain ⟨c, hc, hf⟩ := hf
  rw [hc, zad, hf, zad, zie]; have := zzq l hlt
  unfold z9b at this; rw [this, zad]
theorem z3l {n k : Nat} {l : List Nat} (h : l.length = k) : zit ⟨n, t⟩ 1 k (.str l) = some (ziu .u8 l).flatten /\ znq (.str l) = some k := by
 subst h; constructor
 ·unfold zit
  simp only [zab.asSlice, zab.asStr]; rw [zie, zfi, List.take_length]; rfl
 ·unfold znq
  simp only [zab.asSlice, zab.asStr, zav]
theorem z00 {k : IntKind} {l : List Nat} : ∀ a ∈ (ziu k l).flatten, zab.one a = true := by
 intro a ha; rw [zie] at ha; obtain ⟨x, _, rfl⟩ := List.mem_map.1 ha
 rfl
theorem zww {k : IntKind} {l m : List Nat} : zas k (l ++ m) = zas k l ++ zas k m := by simp [zas]
theorem z35 {T U el : Nat} {cd : Lo} (hT : zz5 C T el 1) (hU : ∃ u, C.tys.get U = some u /\ Nat.beq u.desc.tag 1 = false) (hcd : ∀ z, C.tys.get el = some z -> zdw el z = cd) {l m : List Nat} {v : zab} (hv : zb3 cd C.base tf t 1 (zas .u8 l) v) (hpos : m ≠ []) (hl : l.length + m.length < 400000) {n : Nat} (hn : t.get n = none) (hbase : C.base <= n) (ht : TLe tf t) :
  ∃ t', zcd C T U v (.str m) ⟨n, t⟩ = some (.slice n 0 (l.length + m.length) (l.length + m.length), ⟨n + 1, t'⟩) /\ zb3 cd C.base tf t' 1 (zas .u8 (l ++ m)) (.slice n 0 (l.length + m.length) (l.length + m.length)) /\ TLe tf t' /\ (∀ c, c ≠ n -> ¬ zm0 v c -> t'.get c = t.get c) := by
 have h0 : 0 < m.length := List.length_pos_iff.2 hpos
 obtain ⟨t', h1, h2, h3, h4⟩ := zmb hT hU hcd (l := zas .u8 l) (m := zas .u8 m) (x := .str m) (cm := ziu .u8 m) hv z3y (fun n => by rw [zsq]; exact z3l rfl) (zil.2 rfl) z00 (by rw [zat]; exact h0) (by rw [zat, zat]; exact hl) hn hbase ht
 rw [zat, zat] at h1 h2; rw [<- zww] at h2; exact ⟨t', h1, h2, h3, h4⟩
theorem zkz {T el : Nat} {cd : Lo} {k : IntKind} (hT : zz5 C T el 1) (hcd : ∀ z, C.tys.get el = some z -> zdw el z = cd) {l m : List Nat} {v x : zab} (hv : zb3 cd C.base tf t 1 (zas k l) v) (hx : RSl t 1 (zas k m) x) (hpos : m ≠ []) (hl : l.length + m.length < 400000) {n : Nat} (hn : t.get n = none) (hbase : C.base <= n) (ht : TLe tf t) :
  ∃ t', zcd C T T v x ⟨n, t⟩ = some (.slice n 0 (l.length + m.length) (l.length + m.length), ⟨n + 1, t'⟩) /\ zb3 cd C.base tf t' 1 (zas k (l ++ m)) (.slice n 0 (l.length + m.length) (l.length + m.length)) /\ TLe tf t' /\ (∀ c, c ≠ n -> ¬ zm0 v c -> t'.get c = t.get c) := by
 have h0 : 0 < m.length := List.length_pos_iff.2 hpos
 obtain ⟨cl, g1, g2⟩ := hx
 rw [zil] at g2; subst g2; obtain ⟨t', h1, h2, h3, h4⟩ := zuo hT hcd (l := zas k l) (m := zas k m) (x := x) (cm := ziu k m) hv g1 (zil.2 rfl) z00 (by rw [zat]; exact h0) (by rw [zat, zat]; exact hl) hn hbase ht
 rw [zat, zat] at h1 h2; rw [<- zww] at h2; exact ⟨t', h1, h2, h3, h4⟩
theorem zps {cd : Lo} {base sz : Nat} : zb3 cd base tf t sz [] .nilslice := .inl ⟨rfl, rfl⟩
theorem zb3.keep' {cd : Lo} {base sz : Nat} {l : List D} {v : zab} {t' : Tr zam} (h : zb3 cd base tf t sz l v) (hk : ∀ b, zm0 v b -> t'.get b = t.get b) : zb3 cd base tf t' sz l v := by
 rcases h with ⟨rfl, rfl⟩ | ⟨b, cl, c, rfl, h0, h1, h2, h3, h4⟩
 ·exact .inl ⟨rfl, rfl⟩
 ·exact .inr ⟨b, cl, c, rfl, h0, h1, by rw [hk b (zec.2 rfl)]; exact h2, h3, h4⟩
end
end Go.Am
namespace Go.Am
theorem kn_ge {B m U V head top u2 v2 ur vr : Nat} (hU : U = (head * B + u2) * B ^ m + ur) (hur : ur < B ^ m) (hu2 : u2 < B) (hV : V = (top * B + v2) * B ^ m + vr) (htop : 0 < top) : U / V <= head / top := by
 have hBm : 0 < B ^ m := by omega
 rw [Nat.le_div_iff_mul_le htop]; have h1 : U / V * V <= U := Nat.div_mul_le_self U V
 have h2 : top * B * B ^ m <= V := by
  rw [hV, yap]; omega
 have h3 : U < (head + 1) * B * B ^ m := by
  have : head * B + u2 + 1 <= (head + 1) * B := by rw [yap]; omega
  have := yaj (B ^ m) this
  rw [hU]; rw [yap (head * B + u2) 1, Nat.one_mul] at this
  omega
 have h4 : U / V * top * (B * B ^ m) < (head + 1) * (B * B ^ m) := by
  calc U / V * top * (B * B ^ m) = U / V * (top * B * B ^ m) := by rw [yak, yak]
   _ <= U / V * V := yaw _ h2
   _ <= U := h1
   _ < (head + 1) * B * B ^ m := h3
   _ = (head + 1) * (B * B ^ m) := by rw [yak]
 exact Nat.lt_succ_iff.1 (Nat.lt_of_mul_lt_mul_right h4)
theorem kn_gt {B m U V head top u2 v2 ur vr d : Nat} (hU : U = (head * B + u2) * B ^ m + ur) (hur : ur < B ^ m) (hV : V = (top * B + v2) * B ^ m + vr) (h : head * B + u2 < d * (top * B + v2)) : U / V < d := by
 rcases Nat.lt_or_ge (U / V) d with g | g
 ·exact g
 ·exfalso
  have h1 : U / V * V <= U := Nat.div_mul_le_self U V
  have h2 : d * V <= U := Nat.le_trans (yaj _ g) h1
  have h3 : d * (top * B + v2) * B ^ m <= d * V := by rw [hV, yak]; exact yaw _ (Nat.le_add_right _ _)
  have h4 := yaj (B ^ m) (show head * B + u2 + 1 <= d * (top * B + v2) from h)
  rw [yap (head * B + u2) 1, Nat.one_mul] at h4
  omega
theorem kn_le {B m U V head top u2 v2 ur vr d : Nat} (hB : 0 < B) (hU : U = (head * B + u2) * B ^ m + ur) (hV : V = (top * B + v2) * B ^ m + vr) (hvr : vr < B ^ m) (htop : 0 < top) (hd : d <= B) (h : d * (top * B + v2) <= head * B + u2) : d <= U / V + 1 := by
 have hVpos : 0 < V := by
  rw [hV]; have : 0 < top * B + v2 := by have := Nat.mul_pos htop hB; omega
  have := Nat.mul_pos this (show 0 < B ^ m by omega)
  omega
 rcases Nat.lt_or_ge (U / V + 1) d with g | g
 ·exfalso
  have h1 : (d - 1) * V <= U := by
   have e1 : d * V <= d * ((top * B + v2) * B ^ m) + d * B ^ m := by
    rw [hV, yan]; exact Nat.add_le_add_left (yaw _ (Nat.le_of_lt hvr)) _
   have e2 : d * ((top * B + v2) * B ^ m) <= (head * B + u2) * B ^ m := by rw [<- yak]; exact yaj _ h
   have e3 : d * B ^ m <= V := by
    have : d * B ^ m <= top * B * B ^ m := by
     refine yaj _ (Nat.le_trans hd ?_)
     exact Nat.le_mul_of_pos_left _ htop
    rw [hV, yap]; omega
   rw [Nat.sub_mul, Nat.one_mul]; omega
  have := (Nat.le_div_iff_mul_le hVpos).2 h1
  omega
 ·exact g
theorem top2 {B : Nat} (hB : 0 < B) {l : List Nat} {m a b : Nat} (hlt : zau B l) (hl : l.length = m + 2) (ha : l[m + 1]? = some a) (hb : l[m]? = some b) : val B l = (a * B + b) * B ^ m + val B (l.take m) /\ val B (l.take m) < B ^ m := by
 have e1 := zc8 B l m
 have hlen : (l.take m).length = m := by simp; omega
 rw [hlen] at e1; have e2 : l.drop m = [b, a] := by
  rw [zcc hb, zcc ha, List.drop_of_length_le (by omega)]
 rw [e2] at e1; refine ⟨?_, ?_⟩
 ·rw [e1]
  simp only [val]; rw [yai (B ^ m), Nat.mul_zero, ybu, yai B a]
  rw [Nat.add_comm b]; omega
 ·have := zfw hB (zd1 hlt m); rw [hlen] at this; exact this
theorem top3 {B : Nat} (hB : 0 < B) {l : List Nat} {m a b c : Nat} (hlt : zau B l) (hl : l.length = m + 3) (ha : l[m + 2]? = some a) (hb : l[m + 1]? = some b) (hc : l[m]? = some c) : val B l = ((a * B + b) * B + c) * B ^ m + val B (l.take m) /\ val B (l.take m) < B ^ m := by
 have e1 := zc8 B l m
 have hlen : (l.take m).length = m := by simp; omega
 rw [hlen] at e1; have e2 : l.drop m = [c, b, a] := by
  rw [zcc hc, zcc hb, zcc ha, List.drop_of_length_le (by omega)]
 rw [e2] at e1; refine ⟨?_, ?_⟩
 ·rw [e1]
  simp only [val]; rw [yai (B ^ m), Nat.mul_zero, ybu]
  have e3 : c + B * (b + B * a) = (a * B + b) * B + c := by
   rw [yan, yap, yai B b, yai B (B * a), yai B a]
   omega
  rw [e3]; omega
 ·have := zfw hB (zd1 hlt m); rw [hlen] at this; exact this
end Go.Am
