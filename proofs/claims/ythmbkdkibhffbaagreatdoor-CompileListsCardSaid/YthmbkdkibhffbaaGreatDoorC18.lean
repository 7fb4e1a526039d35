/- Compile, whole. -/
import Derived.Carry
import Derived.ChangeArms
import Derived.HandedShaped
import Derived.JoinedOf
import Derived.LaidMore
import Derived.OpenShut
import Derived.ProofKit
import Derived.Stop.Joined
import Derived.Test.YthmbkdkibhffbaaGreatDoorRows
import GoSem.ClaimJoined
import Derived.Test.YthmbkdkibhffbaaGreatDoorC17
set_option linter.all false
noncomputable section
set_option maxRecDepth 100000
namespace Go.Proofs
open Go Go.Am
variable [zcf]
variable {t tf : Tr zal}
theorem zp9 : ∀ (l : List za4), (∀ x ∈ l, zfn x = true) -> zio l <= 400 * l.length
 | [], _ => by simp [zio]
 | x :: l, h => by
  have hx := h x (by simp)
  unfold zfn at hx; rw [yac] at hx; have p1 := zg8 hx.1
  have p2 := zg8 hx.2
  have := zp9 l fun y hy => h y (by simp [hy])
  unfold zio; rw [yao]; omega
theorem zzcd (h : TLe tf t) : Objs C19.base tf t [] := ⟨h, by simp, fun o ho => (by cases ho), fun k hk => (by simp at hk)⟩
def zc4 (p : zi6) : Nt × List (List XIns × List XIns) := trC za8 zan p.clauses ⟨[], []⟩
theorem z36 {p : zi6} {cs : List zab} {Q : zaw} (hp : p.fit) (ht : TLe tf t) (hg : z2i tf) (hrd : RD tf p.d cs)
  (h0 : zfm p = false -> Q (.tup [.agg zzf1, .int .i64 2]) t)
  (h1 : zfm p = true -> ∀ tf' t' a b c vn vc vw vt, TLe tf tf' -> TLe tf' t' -> RSl tf' 3 (p.defs.map zxp.d) a -> RSl tf' 3 (p.tables.map zb9.d) b -> RSl tf' 24 ((p.clauses.map zm3).map za4.d) c -> RSl tf' 1 ((zc4 p).1.names.map D.str) vn -> RSl tf' 6 ((zc4 p).1.consts.map zcg.d) vc →
   RSl tf' 1 ((zc4 p).2.map fun q => zc2 q.1) vw -> RSl tf' 1 ((zc4 p).2.map fun q => zc2 q.2) vt -> Q (.tup [.agg [.str p.name, a, b, c, vn, vc, vw, vt], .int .i64 0]) t') : Wc C19 F 22 [.agg cs] t Q := by
 have hbd := z4c hp (RD.mono ht _ _ hrd)
 obtain ⟨ca, cb, cc, rfl, ha, hb, hc⟩ := zp6 hrd
 refine w22 _ _ _ _ ?_
 simp only [t22, wpT, q33, hbd, zaa, zax]
 cases hbp : zfm p with
 | false =>
  simp only [Bool.not_false, if_true]; exact h0 hbp
 | true =>
  have h1 := h1 hbp
  simp only [Bool.not_true, yar, if_false]; rw [q51]; refine zzip hp hbp hrd (zzcd ht) fun tf1 t1 a b c k1 k2 k3 k4 k5 => ?_
  have hz : zrc [(.str []), .nilslice, .nilslice, .nilslice] (.agg [.str p.name, a, b, c]) = some (cellsOf [.str p.name, a, b, c]) := zhq (by
   show (true && (zj1 .nilslice a && (zj1 .nilslice b && (zj1 .nilslice c && true)))) = true
   rw [zbi k3, zbi k4, zbi k5]; rfl)
  rw [hz, zaa]; simp only [cellsOf, zil, ze6, yaa, yab, if_true]; intro m1 hm1 hb1; have e1 : zks ⟨m1, t1⟩ = some (.map m1, ⟨m1 + 1, t1.set m1 (.map [])⟩) := rfl
  have o1 : Objs C19.base tf1 (t1.set m1 (.map [])) ([] ++ zfx m1 (zay 0 []) :: []) :=
   Objs.add (A := []) (B := []) (o' := zfx m1 (zay 0 [])) k2 (fun k hk => (zdb hm1 _).2 k (fun e => hk (by simp [zfx, e]))) (fun k hk => by
    have : k = m1 := by simpa [zfx] using hk
    subst this; exact ⟨hm1, hb1⟩) (by show (t1.set m1 _).get m1 = _; rw [Tr.get_set, if_pos rfl]; rfl) (by simp [zfx]) (k2.tle.trans (zdb hm1 _).1)
  rw [e1, zaa]; intro m2 hm2 hb2; have e2 : zks ⟨m2, t1.set m1 (.map [])⟩ = some (.map m2, ⟨m2 + 1, (t1.set m1 (.map [])).set m2 (.map [])⟩) := rfl
  have o2 : Objs C19.base tf1 ((t1.set m1 (.map [])).set m2 (.map [])) ([zfx m1 (zay 0 [])] ++ zfx m2 (zay 0 []) :: []) :=
   Objs.add (A := [zfx m1 (zay 0 [])]) (B := []) (o' := zfx m2 (zay 0 [])) o1 (fun k hk => (zdb hm2 _).2 k (fun e => hk (by simp [zfx, e]))) (fun k hk => by
    have : k = m2 := by simpa [zfx] using hk
    subst this; exact ⟨hm2, hb2⟩) (by show ((t1.set m1 _).set m2 _).get m2 = _; rw [Tr.get_set, if_pos rfl]; rfl) (by simp [zfx]) (o1.tle.trans (zdb hm2 _).1)
  rw [e2, zaa]; have hone2 : zeb zab.one [.map m1, .map m2] = true := rfl
  rw [if_pos hone2]; intro nb hnb hbb; obtain ⟨t3, f1, f2, f3, f4⟩ := z97 (v := .agg [.str p.name, a, b, c, .nilslice, .nilslice, .nilslice, .nilslice, .map m1, .map m2, .nilslice]) hnb
  have o3 : Objs C19.base tf1 t3 ([] ++ zfp nb none [.str p.name, a, b, c, .nilslice, .nilslice, .nilslice, .nilslice, .map m1, .map m2, .nilslice] :: [zfx m1 (zay 0 []), zfx m2 (zay 0 [])]) :=
   Objs.add (A := []) (o' := zfp nb none [.str p.name, a, b, c, .nilslice, .nilslice, .nilslice, .nilslice, .map m1, .map m2, .nilslice]) o2 (fun k hk => f4 k (fun e => hk (by simp [zfp, e]))) (fun k hk => by
    have : k = nb := by simpa [zfp] using hk
    subst this; exact ⟨hnb, hbb⟩) f2 (by simp [zfp]) (o2.tle.trans f3)
  have addL : ∀ {A : List Thg} {sz : Nat}, Objs C19.base tf1 t3 A -> Objs C19.base tf1 t3 (A ++ [zau C19.base sz [] .nilslice]) := fun {A sz} h => by
   have h' : Objs C19.base tf1 t3 (A ++ []) := by rw [ybe]; exact h
   exact Objs.add (o' := zau C19.base sz ([] : List D) .nilslice) h' (fun _ _ => rfl) (fun k hk => by simp [zau, zjy] at hk) (.inl ⟨rfl, rfl⟩) (by simp [zau, zjy]) h'.tle
  have o4 : TW tf1 t3 ⟨nb, [.str p.name, a, b, c], .nilslice, .nilslice, .nilslice, .nilslice, .nilslice, m1, m2⟩ ⟨[], [], [], [], []⟩ := ⟨rfl, addL (sz := 1) (addL (sz := 1) (addL (sz := 6) (addL (sz := 1) o3)))⟩
  have hbp' := hbp
  unfold zfm at hbp'; simp only [yac, decide_eq_true_eq] at hbp'
  obtain ⟨⟨⟨⟨hb1', hb2'⟩, hb3'⟩, hb4'⟩, hb5'⟩ := hbp'
  have hbc : ∀ x ∈ p.clauses, zfn x = true := fun x hx => ybc.1 hb4' x hx
  have hpc := zp9 p.clauses hbc
  rw [f1, zaa, hc.len, zaa, yag, zag, zaa]; refine z90 hb2' hp.clauses hbc p.clauses 0 t3 tf1 ⟨nb, [.str p.name, a, b, c], .nilslice, .nilslice, .nilslice, .nilslice, .nilslice, m1, m2⟩ ⟨[], [], [], [], []⟩ (List.drop_zero) o4 (hg.mono k1) (hc.mono k1) (by simp; omega) (by simp; omega) (by simp; omega) (by simp; omega) (fun tf5 t5 r5 n1 n2 n3 n4 => ?_) ⟨_, _, _, _, rfl, k3.one, k4.one, k5.one, zbi k3, zbi k4, zbi k5⟩
  have n3' : r5.pl = [.str p.name, a, b, c] := n3
  rw [n3']; have q4 : Objs C19.base tf5 t5 ([zfp r5.b none r5.cells, zfx r5.m1 (zay 0 (zc4 p).1.names), zfx r5.m2 (zay 0 ((zc4 p).1.consts.map za8))] ++ zau C19.base 1 ((zc4 p).1.names.map D.str) r5.vn :: [zau C19.base 6 ((zc4 p).1.consts.map zcg.d) r5.vc, zau C19.base 1 ((zc4 p).2.map fun q => zc2 q.1) r5.vw, zau C19.base 1 ((zc4 p).2.map fun q => zc2 q.2) r5.vt]) := n4.os
  obtain ⟨tf6, x1, x2, x3⟩ := Objs.freezeL q4
  obtain ⟨tf7, y1, y2, y3⟩ := Objs.freezeL (A := [zfp r5.b none r5.cells, zfx r5.m1 (zay 0 (zc4 p).1.names), zfx r5.m2 (zay 0 ((zc4 p).1.consts.map za8))]) (B := [zau C19.base 1 ((zc4 p).2.map fun q => zc2 q.1) r5.vw, zau C19.base 1 ((zc4 p).2.map fun q => zc2 q.2) r5.vt]) x2
  obtain ⟨tf8, z1, z2, z3⟩ := Objs.freezeL (A := [zfp r5.b none r5.cells, zfx r5.m1 (zay 0 (zc4 p).1.names), zfx r5.m2 (zay 0 ((zc4 p).1.consts.map za8))]) (B := [zau C19.base 1 ((zc4 p).2.map fun q => zc2 q.2) r5.vt]) y2
  obtain ⟨tf9, w1, w2, w3⟩ := Objs.freezeL (A := [zfp r5.b none r5.cells, zfx r5.m1 (zay 0 (zc4 p).1.names), zfx r5.m2 (zay 0 ((zc4 p).1.consts.map za8))]) (B := []) z2
  have T : TLe tf1 tf9 := n1.trans (x1.trans (y1.trans (z1.trans w1)))
  exact h1 tf9 t5 a b c r5.vn r5.vc r5.vw r5.vt (k1.trans T) w2.tle (k3.mono T) (k4.mono T) (k5.mono T) (x3.mono (y1.trans (z1.trans w1))) (y3.mono (z1.trans w1)) (z3.mono w1) w3
end Go.Proofs
namespace Go.Am
def zziw (i : XIns) : Prop := i.op < 255 /\ 0 <= zeu i /\ zeu i <= 3
section
variable {key : zcg -> List Nat} {valid : zcg -> Bool}
def zn4 (f : Tr1) : Prop := ∀ s p, ∀ i ∈ (f s p).2, zziw i
theorem zzh2 {op n : Nat} {name : List Nat} {v : zcg} {s : Nt} (h : zc5 valid op v n = true) (h15 : op ≠ 15) (h16 : op ≠ 16) (h18 : op ≠ 18) (hop : op < 256) : zziw (zd1 key op name v n s).2 := by
 obtain ⟨h1, h2⟩ := z69 (key := key) (name := name) (s := s) h h15 h16 h18 hop
 refine ⟨by omega, by omega, ?_⟩
 rw [h1]; unfold zc5 at h; simp only [yac, decide_eq_true_eq] at h; have h3 := h.2
 have h4 := h.1.2
 unfold zra at h3 h4; repeat' split at h3
 all_goals simp_all
 all_goals omega
theorem zwt {f g : Tr1} {skip : Nat} {truth : Int} (hf : zn4 f) (hg : zn4 g) (hs : skip = 10 \/ skip = 11) : zn4 (zny key f g skip truth) := by
 intro s p i hi; simp only [zny, List.mem_append, yat, List.not_mem_nil, or_false] at hi; rcases hi with h | rfl | h | rfl | rfl | rfl
 ·exact hf _ _ i h
 ·rcases hs with e | e <;> subst e <;> exact ⟨by simp, by simp [zeu], by simp [zeu]⟩
 ·exact hg _ _ i h
 ·exact ⟨by simp, by simp [zeu], by simp [zeu]⟩
 ·exact ⟨by simp, by simp [zeu], by simp [zeu]⟩
 ·exact ⟨by simp, by simp [zeu], by simp [zeu]⟩
theorem zzh3 {f g h : Tr1} (hf : zn4 f) (hg : zn4 g) (hh : zn4 h) : zn4 (ifT f g h) := by
 intro s p i hi; simp only [ifT, List.mem_append, yat] at hi; rcases hi with h' | rfl | h' | rfl | h'
 ·exact hf _ _ i h'
 ·exact ⟨by simp, by simp [zeu], by simp [zeu]⟩
 ·exact hg _ _ i h'
 ·exact ⟨by simp, by simp [zeu], by simp [zeu]⟩
 ·exact hh _ _ i h'
theorem z12 : ∀ {fs : List Tr1}, (∀ f ∈ fs, zn4 f) -> zn4 (zh1 fs)
 | [], _ => by intro s p i hi; simp [zh1] at hi
 | f :: l, h => by
  intro s p i hi; simp only [zh1, List.mem_append] at hi; rcases hi with h' | h'
  ·exact h f (by simp) _ _ i h'
  ·exact z12 (fun g hg => h g (by simp [hg])) _ _ i h'
theorem z3y {op : Nat} {name : List Nat} {v : zcg} {fs : List Tr1} (hop : op < 256) (hf : ∀ f ∈ fs, zn4 f) : zn4 (zlo key valid op name v fs) := by
 intro s p i hi; unfold zlo at hi; by_cases h0 : zc5 valid op v fs.length = false
 ·simp only [if_pos h0, List.mem_singleton] at hi
  subst hi; exact ⟨by simp, by simp [zeu], by simp [zeu]⟩
 ·simp only [if_neg h0] at hi
  have h0 : zc5 valid op v fs.length = true := by simpa using h0
  by_cases h15 : op = 15
  ·simp only [if_pos h15] at hi
   match fs, hf, hi with
   | f :: g :: r, hf, hi => exact zwt (hf f (by simp)) (hf g (by simp)) (.inl rfl) s p i hi
   | [], _, hi => cases hi
   | [_], _, hi => cases hi
  ·simp only [if_neg h15] at hi
   by_cases h16 : op = 16
   ·simp only [if_pos h16] at hi
    match fs, hf, hi with
    | f :: g :: r, hf, hi => exact zwt (hf f (by simp)) (hf g (by simp)) (.inr rfl) s p i hi
    | [], _, hi => cases hi
    | [_], _, hi => cases hi
   ·simp only [if_neg h16] at hi
    by_cases h18 : op = 18
    ·simp only [if_pos h18] at hi
     match fs, hf, hi with
     | f :: g :: k :: r, hf, hi => exact zzh3 (hf f (by simp)) (hf g (by simp)) (hf k (by simp)) s p i hi
     | [], _, hi => cases hi
     | [_], _, hi => cases hi
     | [_, _], _, hi => cases hi
    ·simp only [if_neg h18, List.mem_append, List.mem_singleton] at hi
     rcases hi with h | h
     ·exact z12 hf _ _ i h
     ·subst h; exact zzh2 h0 h15 h16 h18 hop
mutual
theorem z0d : ∀ (x : zam), x.fit -> zn4 (trX key valid x)
 | .mk op name v args, h => by
  unfold zam.fit at h; unfold trX; exact z3y h.1 (z0f args h.2.2.2.2.2)
theorem z0f : ∀ (l : List zam), zam.fits l -> ∀ f ∈ trF key valid l, zn4 f
 | [], _, f, hf => by unfold trF at hf; cases hf
 | x :: l, h, f, hf => by
  unfold zam.fits at h; unfold trF at hf; rcases yat.1 hf with rfl | hf
  ·exact z0d x h.1
  ·exact z0f l h.2 f hf
end
end
end Go.Am
namespace Go.Proofs
open Go Go.Am
variable [zcf]
variable {t tf : Tr zal}
theorem z80 {l : List XIns} {v : zab} (hv : RSl t 3 (l.map XIns.d) v) {i : Nat} {x : XIns} (hx : l[i]? = some x) :
  ∃ b off, zaf C19 37 v (.int .i64 (i : Int)) = some (.ptr b off) /\ zap C19 54 ⟨0, t⟩ (.ptr b off) = some (.agg x.cells) /\ zaj C19 54 0 (.ptr b off) = some (.ptr b (off + 0)) /\ zaj C19 54 1 (.ptr b off) = some (.ptr b (off + 1)) /\ zaj C19 54 2 (.ptr b off) = some (.ptr b (off + 2)) ∧
   zap C19 5 ⟨0, t⟩ (.ptr b (off + 0)) = some (.int .u8 x.op) /\ zap C19 3 ⟨0, t⟩ (.ptr b (off + 1)) = some (.int .i64 x.a) /\ zap C19 3 ⟨0, t⟩ (.ptr b (off + 2)) = some (.int .i64 x.b) := by
 obtain ⟨b, off, cs, g1, g2, g3, _, g5⟩ := zjo.at sl37 (by simp) hv (i := i) (d := x.d) (by simp [hx])
 rw [z6x] at g5; subst g5; exact ⟨b, off, g1, g2, by kernel_rfl, by kernel_rfl, by kernel_rfl, g3.load1 ty5 rfl rfl, g3.load1 ty3 rfl rfl, g3.load1 ty3 rfl rfl⟩
end Go.Proofs
namespace Go.Proofs
open Go Go.Am
variable [zcf]
variable {t tf : Tr zal}
def zzat (c : List XIns) : Prop := c.length <= 800 /\ (∀ i ∈ c, zziw i) /\ ∀ bit, Am.Way c bit 0 0 c.length 1
theorem zs8 : ∀ (l : List za4) (s : Nt), (∀ x ∈ l, x.fit) -> (∀ x ∈ l, zfn x = true) -> ∀ q ∈ (trC za8 zan l s).2, zzat q.1 /\ zzat q.2
 | [], s, _, _, q, h => by simp [trC] at h
 | x :: l, s, hf, hb, q, h => by
  have hxb := hb x (by simp)
  unfold zfn at hxb; rw [yac] at hxb; have hxf := hf x (by simp)
  have one : ∀ (y : zam) (n : Nt), y.fit -> zme y = true -> zzat (trX za8 zan y n 0).2 := fun y n h1 h2 => by
   have := (zdh (key := za8) (valid := zan) y n 0).1
   have := zg8 h2
   exact ⟨by omega, z0d y h1 n 0, ends h1 n⟩
  simp only [trC, yat] at h; rcases h with rfl | h
  ·exact ⟨one _ _ hxf.2.2.2.2.2.1 hxb.1, one _ _ hxf.2.2.2.2.2.2 hxb.2⟩
  ·exact zs8 l _ (fun y hy => hf y (by simp [hy])) (fun y hy => hb y (by simp [hy])) q h
section
variable {bits : Nat} {k : Int} {v8 : zab} {nm : List Nat} {a b c vn vc vw vt : zab} {Q : zaw}
end
end Go.Proofs
namespace Go.Proofs
open Go Go.Am
variable [zcf]
variable {t tf : Tr zal}
theorem z91 {l : List (List XIns)} {v : zab} (hv : RSl tf 1 (l.map zc2) v) (ht : TLe tf t) {i : Nat} {x : List XIns} (hx : l[i]? = some x) :
  ∃ b off u, zaf C19 32 v (.int .i64 (i : Int)) = some (.ptr b off) /\ zap C19 37 ⟨0, t⟩ (.ptr b off) = some u /\ RSl tf 3 (x.map XIns.d) u := by
 obtain ⟨b, off, cs, g1, g2, g3, _, g5⟩ := zjo.at sl32 (fun _ => rfl) hv (i := i) (d := zc2 x) (by simp [hx])
 unfold zc2 at g5; rw [zk9] at g5; obtain ⟨u, rfl, hu⟩ := g5
 exact ⟨b, off, u, g1, zeg (H := ⟨0, tf⟩) (fun _ _ k => ht _ _ k) g2, hu⟩
theorem zzdy : pvC C19 F 14 [] t = some (.bool true) := zt1 (g := zzgx) (by kernel_rfl) fun _ => rfl
end Go.Proofs
namespace Go.Am
open Go Go.RowKit
def zv1 {α : Type} (f : Nat -> Option α) : Nat -> Tr α
 | 0 => .leaf
 | n + 1 => match f n with
  | some v => (zv1 f n).set n v
  | none => zv1 f n
theorem zfh {α : Type} (f : Nat -> Option α) : ∀ (n a : Nat), (zv1 f n).get a = if a < n then f a else none := by
 intro n; induction n with
 | zero => intro a; rw [if_neg (by omega)]; exact Tr.get_leaf _
 | succ n ih =>
  intro a; unfold zv1
  cases hf : f n with
  | some v =>
   simp only []; rw [Tr.get_set, ih]; by_cases h : a = n
   ·subst h; rw [if_pos rfl, if_pos (by omega), hf]
   ·rw [if_neg h]
    by_cases h2 : a < n
    ·rw [if_pos h2, if_pos (by omega)]
    ·rw [if_neg h2, if_neg (by omega)]
  | none =>
   simp only []; rw [ih]; by_cases h : a = n
   ·subst h; rw [if_neg (by omega), if_pos (by omega), hf]
   ·by_cases h2 : a < n
    ·rw [if_pos h2, if_pos (by omega)]
    ·rw [if_neg h2, if_neg (by omega)]
def zzan (N : Nat) : Value -> Option zab
 | .bool b => some (.bool b)
 | .int k n => some (.int k n)
 | .string s => some (.str (zbm s))
 | .slice none 0 0 => some .nilslice
 | .slice (some _) 0 0 => some (.slice 0 0 0 0)
 | .slice (some ⟨b, off, none⟩) len cap => if b < N then some (.slice (256 + b) off len cap) else none
 | _ => none
def absB (N : Nat) : Obj -> Option zal
 | .cells cs _ _ => some (.cells (zv1 (fun j => (cs[j]?).bind (zzan N)) cs.size) cs.size none)
 | _ => none
def zre (w : World) : Tr zal := zv1 (fun a => if a < 256 then (w.heap[a]?).bind (absB w.heap.size) else (w.heap[a - 256]?).bind (absB w.heap.size)) (256 + w.heap.size)
def muW (w : World) : Mu := ⟨fun a => if a < 256 then some ⟨a, true, 0, 0, true⟩ else if a < 256 + w.heap.size then some ⟨a - 256, true, 0, 0, true⟩ else none, fun _ => none⟩
section
variable {w : World}
theorem z2e {v : Value} {a : zab} (h : zzan w.heap.size v = some a) : zaq (muW w) a v := by
 unfold zzan at h; split at h
 ·cases h; rw [zaq]
 ·cases h; rw [zaq]
 ·cases h; rw [zaq]; exact ⟨_, rfl, rfl⟩
 ·cases h; rw [zaq]
 ·cases h; rw [zaq]; exact .inr ⟨rfl, rfl, rfl, rfl, _, rfl⟩
 ·split at h
  ·rename_i hb
   cases h; rename_i b off len cap _; rw [zaq]; refine .inl ⟨⟨b, true, 0, 0, true⟩, cap, ?_, rfl, yal _, fun _ => rfl, fun h => by cases h⟩
   show (if 256 + b < 256 then some (⟨256 + b, true, 0, 0, true⟩ : BI) else if 256 + b < 256 + w.heap.size then some ⟨256 + b - 256, true, 0, 0, true⟩ else none) = _
   rw [if_neg (by omega), if_pos (by omega), show 256 + b - 256 = b by omega]
  ·cases h
 ·cases h
theorem z2g {o : Obj} {x : zal} (h : absB w.heap.size o = some x) (b : Nat) : zm8 (muW w) ⟨b, true, 0, 0, true⟩ x o /\ x.asLoop = none /\ x.asDeferred = none := by
 cases o <;> first | (cases h; done) | skip
 rename_i cs elem fr
 cases h; refine ⟨⟨cs, elem, fr, rfl, yal _, .inl rfl, fun j v hv => ?_, rfl⟩, rfl, rfl⟩
 rw [zfh] at hv; split at hv
 case isFalse => cases hv
 rename_i hj
 cases hc : cs[j]? with
 | none => rw [hc] at hv; cases hv
 | some u =>
  rw [hc] at hv; exact ⟨hj, u, rfl, z2e hv⟩
theorem hrelW : zb0 (256 + w.heap.size) w.heap.size (muW w) ⟨256 + w.heap.size, zre w⟩ w := by
 have hget : ∀ a x, (zre w).get a = some x -> ∃ b o, b < w.heap.size /\ w.heap[b]? = some o /\ absB w.heap.size o = some x /\ a < 256 + w.heap.size /\ b = (if a < 256 then a else a - 256) := by
  intro a x hx; unfold zre at hx; rw [zfh] at hx; split at hx
  case isFalse => cases hx
  rename_i hlt; split at hx
  ·rename_i h
   cases ho : w.heap[a]? with
   | none => rw [ho] at hx; cases hx
   | some o => rw [ho] at hx; exact ⟨a, o, (yaf.1 ho).1, ho, hx, hlt, by rw [if_pos h]⟩
  ·rename_i h
   cases ho : w.heap[a - 256]? with
   | none => rw [ho] at hx; cases hx
   | some o => rw [ho] at hx; exact ⟨a - 256, o, (yaf.1 ho).1, ho, hx, hlt, by rw [if_neg h]⟩
 have hmu : ∀ a, (muW w) a = if a < 256 then some ⟨a, true, 0, 0, true⟩ else if a < 256 + w.heap.size then some ⟨a - 256, true, 0, 0, true⟩ else none := fun _ => rfl
 have big : ∀ a, 256 + w.heap.size <= a -> (muW w) a = none := fun a h => by rw [hmu, if_neg (by omega), if_neg (by omega)]
 have same : ∀ a x i, (zre w).get a = some x -> (muW w) a = some i -> ∃ o, w.heap[i.b]? = some o /\ i.b < w.heap.size /\ absB w.heap.size o = some x /\ i = ⟨i.b, true, 0, 0, true⟩ := by
  intro a x i hx hi; obtain ⟨b, o, h1, h2, h3, h4, h5⟩ := hget a x hx
  rw [hmu] at hi; split at hi
  ·rename_i h
   cases hi; rw [if_pos h] at h5; subst h5; exact ⟨o, h2, h1, h3, rfl⟩
  ·rename_i h
   rw [if_neg h] at h5; have hi := Option.some.inj hi
   have hb : i.b = b := by rw [<- hi, h5]
   refine ⟨o, by rw [hb]; exact h2, by rw [hb]; exact h1, h3, by rw [<- hi]⟩
 refine ⟨by omega, fun g hg => by rw [hmu, if_pos hg], fun a x i _ hx hi => ?_, yal _, yal _, fun a ha => ⟨big a ha, ?_⟩, fun a x i hx hi => ?_, fun a i ha hi => ?_, fun a b x y i j hx _ hi _ ha _ _ => ?_, fun a x t h => by cases h⟩
 ·obtain ⟨o, _, h2, h3, _⟩ := same a x i hx hi
  exact ⟨h2, (z2g h3 0).2⟩
 ·show (zre w).get a = none
  unfold zre; have ha : 256 + w.heap.size <= a := ha
  rw [zfh, if_neg (by omega)]
 ·obtain ⟨o, h1, _, h3, h4⟩ := same a x i hx hi
  exact ⟨o, h1, by rw [h4]; exact (z2g h3 _).1⟩
 ·rw [big a ha] at hi; cases hi
 ·rw [big a ha] at hi; cases hi
end
end Go.Am
namespace Go.Am
open Go Go.RowKit
def zd3 (P : Program) : Nat -> TypeId -> D -> Prop
 | 0, _, _ => False
 | f + 1, t, x => match P.underlying t with
  | some .bool => ∃ b, x = .bool b
  | some (.int k) => ∃ n, x = .int k n /\ (Lit.int k n).wf = true
  | some .string => ∃ l : List Nat, x = .str l /\ l.length <= reachBytes /\ ∀ c ∈ l, c < 256
  | some (.slice e) => ∃ l : List D, x = .sl (P.cellsOf e) l /\ l.length * P.bytesOf e <= reachBytes /\ ∀ y ∈ l, zd3 P f e y
  | some (.struct fs) => ∃ l : List D, x = .st l /\ zec (fun fd y => zd3 P f fd.type y) fs.toList l
  | _ => False
def z2v (P : Program) : Nat -> List Field -> Nat -> Bool
 | off, [], n => off == n
 | off, f :: fs, n => f.offset == off && z2v P (off + P.cellsOf f.type) fs n
structure Plain (P : Program) (S : TypeId -> Prop) : Prop where
 part : ∀ t, S t -> match P.underlying t with
  | some .bool => True
  | some (.int _) => True
  | some .string => True
  | some (.slice e) => S e /\ 0 < P.cellsOf e
  | some (.struct fs) => (∀ f ∈ fs.toList, S f.type) /\ z2v P 0 fs.toList (P.cellsOf t) = true
  | _ => False
def av (N : Nat) (v : Value) : zab := (zzan N v).getD .nilptr
def Has (N : Nat) (cs : List Value) : Prop := ∀ v ∈ cs, zzan N v = some (av N v)
theorem zq1 {α : Type} {Q : Nat -> α -> Prop} : ∀ (n : Nat), (∀ i, i < n -> ∃ p, Q i p) -> ∃ l : List α, l.length = n /\ ∀ i p, l[i]? = some p -> Q i p := by
 intro n; induction n with
 | zero => intro _; exact ⟨[], rfl, fun i p h => by simp at h⟩
 | succ n ih =>
  intro h; obtain ⟨l, hl, hq⟩ := ih fun i hi => h i (by omega)
  obtain ⟨p, hp⟩ := h n (by omega)
  refine ⟨l ++ [p], by simp [hl], fun i q hq' => ?_⟩
  by_cases hi : i < n
  ·rw [List.getElem?_append_left (by omega)] at hq'; exact hq i q hq'
  ·rw [yaq (by omega)] at hq'
   have : i - l.length = 0 := by
    cases hz : i - l.length with
    | zero => rfl
    | succ m => rw [hz] at hq'; simp at hq'
   rw [this] at hq'
   simp at hq'
   subst hq'
   have : i = n := by omega
   subst this; exact hp
section
variable {H : Type} {enc : TypeId × Value -> H} {P : Program} {w : World}
theorem zj3 {p : Nat -> Bool} : ∀ {ts : List TypeId} {ds : List (DataW H)}, (DataW.weightsEach P ts ds).all p = true -> ∀ {i : Nat} {t : TypeId} {d : DataW H}, ts[i]? = some t -> ds[i]? = some d -> (DataW.weights P t d).all p = true
 | [], _, _, i, _, _, h1, _ => by simp at h1
 | _ :: _, [], _, i, _, _, _, h2 => by simp at h2
 | t :: ts, d :: ds, h, i, u, e, h1, h2 => by
  rw [DataW.weightsEach, List.all_append, yac] at h
  cases i with
  | zero => simp at h1 h2; subst h1 h2; exact h.1
  | succ i => exact zj3 h.2 (by simpa using h1) (by simpa using h2)
theorem zlc {p : Nat -> Bool} {e : TypeId} : ∀ {ds : List (DataW H)}, (DataW.weightsAll P e ds).all p = true -> ∀ {i : Nat} {d : DataW H}, ds[i]? = some d -> (DataW.weights P e d).all p = true
 | [], _, i, _, h2 => by simp at h2
 | d :: ds, h, i, x, h2 => by
  rw [DataW.weightsAll, List.all_append, yac] at h
  cases i with
  | zero => simp at h2; subst h2; exact h.1
  | succ i => exact zlc h.2 (by simpa using h2)
theorem z2c {a : Addr} {n : Nat} {cs : List Value} (h : w.cells? 0 a n = some cs) : cs.length = n /\ (0 < n -> a.spot = none /\ ∃ c t fr, w.heap[a.block]? = some (.cells c t fr) /\ ∀ j, j < n -> c[a.off + j]? = cs[j]?) := by
 unfold World.cells? at h
 rw [if_pos (Nat.zero_le _)] at h
 have hl := mapM_some_length h
 have hg := mapM_some_get h
 simp only [List.length_range] at hl; refine ⟨hl, fun hn => ?_⟩
 have key : ∀ j, j < n -> w.cell? (a.add j) = cs[j]? := fun j hj => hg j j (by simp [hj])
 have h0 := key 0 hn
 have hs0 : ∃ v, cs[0]? = some v := ⟨cs[0]'(by omega), yae (by omega)⟩
 obtain ⟨v0, hv0⟩ := hs0
 rw [hv0] at h0; have e0 : a.add 0 = a := by simp [Addr.add]
 rw [e0] at h0; unfold World.cell? at h0
 cases hb : w.heap[a.block]? with
 | none => rw [hb] at h0; cases h0
 | some o =>
  rw [hb] at h0
  cases o with
  | cells c t fr =>
   simp only [] at h0; split at h0
   ·cases h0
   ·rename_i hsp
    refine ⟨by simpa using hsp, c, t, fr, rfl, fun j hj => ?_⟩
    have := key j hj
    unfold World.cell? at this
    by_cases hj0 : j = 0
    ·subst hj0; rw [hv0, Nat.add_zero]; exact h0
    ·have eb : (a.add j).block = a.block := by unfold Addr.add; rw [if_neg hj0]
     have eo : (a.add j).off = a.off + j := by unfold Addr.add; rw [if_neg hj0]
     have es : (a.add j).spot = none := by unfold Addr.add; rw [if_neg hj0]
     rw [eb, hb] at this; simp only [es, eo, Option.isSome_none, yar, if_false] at this; exact this
  | _ => cases h0
theorem z2f {b : Nat} {c : Array Value} {t : TypeId} {fr : Nat × Nat} (h : w.heap[b]? = some (.cells c t fr)) :
  (zre w).get (256 + b) = some (.cells (zv1 (fun j => (c[j]?).bind (zzan w.heap.size)) c.size) c.size none) := by
 have hb := (yaf.1 h).1
 unfold zre; rw [zfh, if_pos (by omega), if_neg (by omega), show 256 + b - 256 = b by omega, h]
 rfl
theorem at_old {b off n : Nat} {c : Array Value} {t : TypeId} {fr : Nat × Nat} {cs : List Value} (h : w.heap[b]? = some (.cells c t fr)) (hl : cs.length = n) (hc : ∀ j, j < n -> c[off + j]? = cs[j]?) (hs : Has w.heap.size cs) :
  At (zre w) (256 + b) off (cs.map (av w.heap.size)) := by
 refine ⟨_, _, _, z2f h, fun j a ha => ?_⟩
 rw [yav] at ha
 cases hj : cs[j]? with
 | none => rw [hj] at ha; cases ha
 | some v =>
  rw [hj] at ha; have hlt : j < n := by rw [<- hl]; exact (yad.1 hj).1
  have h1 := hc j hlt
  rw [hj] at h1; have hsz : off + j < c.size := (yaf.1 h1).1
  rw [zfh, if_pos hsz, h1]; have ha : av w.heap.size v = a := by simpa using ha
  rw [<- ha]; exact hs v (List.mem_of_getElem? hj)
theorem zpq {cs : List Value} : ∀ {fs : List Field} {off : Nat}, z2v P off fs cs.length = true -> (fs.map fun f => (cs.drop f.offset).take (P.cellsOf f.type)).flatten = cs.drop off
 | [], off, h => by simp [z2v] at h; subst h; simp
 | f :: fs, off, h => by
  rw [z2v, yac] at h; obtain ⟨h1, h2⟩ := h
  have h1 : f.offset = off := by simpa using h1
  rw [List.map_cons, List.flatten_cons, zpq h2, h1, <- List.drop_drop, List.take_append_drop]
theorem zzav {α β : Type} {R : α -> β -> Prop} : ∀ {l : List α} {m : List β}, m.length = l.length -> (∀ (i : Nat) a b, l[i]? = some a -> m[i]? = some b -> R a b) -> zec R l m
 | [], [], _, _ => .nil
 | [], _ :: _, h, _ => by simp at h
 | _ :: _, [], h, _ => by simp at h
 | a :: l, b :: m, h, k => .cons (k 0 a b (by simp) (by simp)) (zzav (by simpa using h) fun i a b h1 h2 => k (i + 1) a b (by simpa using h1) (by simpa using h2))
theorem zzgt {S : TypeId -> Prop} (hP : Plain P S) (h0 : ∃ c n lo, (zre w).get 0 = some (.cells c n lo)) :
  ∀ (fuel : Nat) (t : TypeId) (cs : List Value) (x : DataW H × List MemPlace), S t -> DataW.trod enc P w 0 (fun _ => true) true fuel t cs = some x -> (DataW.weights P t x.1).all (· <= reachBytes) = true →
   Has w.heap.size cs /\ ∃ d, RD (zre w) d (cs.map (av w.heap.size)) /\ zd3 P fuel t d := by
 intro fuel; induction fuel with
 | zero => intro t cs x _ h; simp [DataW.trod] at h
 | succ n ih =>
  intro t cs x hS h hw; have hp := hP.part t hS
  have one : ∀ {v : Value} {a : zab}, zzan w.heap.size v = some a -> Has w.heap.size [v] /\ av w.heap.size v = a := by
   intro v a hv; have : av w.heap.size v = a := by unfold av; rw [hv]; rfl
   refine ⟨fun u hu => ?_, this⟩
   simp at hu; subst hu; rw [hv, this]
  cases hu : P.underlying t with
  | none => rw [hu] at hp; exact hp.elim
  | some dt =>
  cases dt with
  | bool =>
   obtain ⟨b, rfl, rfl⟩ := DataW.trod_bool hu h
   obtain ⟨h1, h2⟩ := one (v := .bool b) (a := .bool b) rfl
   exact ⟨h1, .bool b, by rw [zih]; simp [h2], by unfold zd3; rw [hu]; exact ⟨b, rfl⟩⟩
  | int k =>
   obtain ⟨m, rfl, rfl, hwf⟩ := DataW.trod_int hu h
   obtain ⟨h1, h2⟩ := one (v := .int k m) (a := .int k m) rfl
   exact ⟨h1, .int k m, by rw [zgk]; simp [h2], by unfold zd3; rw [hu]; exact ⟨m, rfl, hwf⟩⟩
  | string =>
   obtain ⟨s, rfl, rfl, _⟩ := DataW.trod_string hu h
   obtain ⟨h1, h2⟩ := one (v := .string s) (a := .str (zbm s)) rfl
   refine ⟨h1, .str (zbm s), by rw [zkn]; simp [h2], ?_⟩
   unfold zd3; rw [hu]; simp only [DataW.weights, ybh, List.all_nil, Bool.and_true, decide_eq_true_eq] at hw; refine ⟨_, rfl, by unfold zbm; simpa using hw, fun c hc => ?_⟩
   unfold zbm at hc; simp only [List.mem_map] at hc; obtain ⟨u, _, rfl⟩ := hc
   exact UInt8.toNat_lt u
  | slice e =>
   rw [hu] at hp; obtain ⟨hSe, hpos⟩ := hp
   rcases DataW.trod_slice hu h with ⟨rfl, rfl⟩ | ⟨a, len, cap, zhn, rest, m, hm, rfl, rfl, _, hlc, _, hel, hE, hR, _⟩
   ·obtain ⟨h1, h2⟩ := one (v := .slice none 0 0) (a := .nilslice) rfl
    refine ⟨h1, .sl (P.cellsOf e) [], by rw [zk9]; exact ⟨_, by simp [h2], [], .inl ⟨rfl, rfl⟩, by rw [RDs]⟩, ?_⟩
    unfold zd3; rw [hu]; exact ⟨[], rfl, by simp, fun y hy => by simp at hy⟩
   ·obtain rfl : n = m := by omega
    simp only [DataW.weights, hu, ybh, yac, List.all_append, decide_eq_true_eq, yag] at hw; obtain ⟨hsz, hwe, hwr⟩ := hw
    by_cases hcap : cap = 0
    ·subst hcap
     obtain rfl : len = 0 := by omega
     obtain ⟨h1, h2⟩ := one (v := .slice (some a) 0 0) (a := .slice 0 0 0 0) (by cases a; rfl)
     refine ⟨h1, .sl (P.cellsOf e) [], ?_, ?_⟩
     ·rw [zk9, List.map_cons, List.map_nil, h2]
      refine ⟨_, rfl, [], .inr ⟨0, 0, 0, rfl, yal _, ?_, fun i cs hi => by simp at hi⟩, by rw [RDs]⟩
      obtain ⟨c, k, lo, hc⟩ := h0
      have := hc
      unfold zre at this; rw [zfh] at this; split at this
      case isFalse => cases this
      rw [if_pos (by omega)] at this
      cases ho : w.heap[0]? with
      | none => rw [ho] at this; cases this
      | some o =>
       rw [ho] at this
       cases o with
       | cells c' t' fr' =>
        simp only [Option.bind_some, absB] at this
        cases this
        exact ⟨_, _, _, hc, .inl rfl⟩
       | _ => cases this
     ·unfold zd3
      rw [hu]; exact ⟨[], rfl, by simp, fun y hy => by simp at hy⟩
    ·have hr := (hR rfl).1
     have hRr := (hR rfl).2
     have hel1 : ∀ i, i < len -> ∃ p : List Value × D, w.cells? 0 (a.add (i * P.cellsOf e)) (P.cellsOf e) = some p.1 /\ Has w.heap.size p.1 /\ RD (zre w) p.2 (p.1.map (av w.heap.size)) /\ zd3 P n e p.2 := by
      intro i hi; have := hE i hi
      obtain ⟨y, hy⟩ : ∃ y, zhn[i]? = some y := ⟨zhn[i]'(by omega), yae (by omega)⟩
      rw [hy] at this; simp only [Option.bind_eq_some_iff] at this; obtain ⟨c1, hc1, hy1⟩ := this
      obtain ⟨g1, d, g2, g3⟩ := ih e c1 y hSe hy1 (zlc hwe (i := i) (by simp [hy]))
      exact ⟨(c1, d), hc1, g1, g2, g3⟩
     obtain ⟨l, hl, hq⟩ := zq1 len hel1
     have hfirst : ∃ c1, w.cells? 0 a (P.cellsOf e) = some c1 := by
      by_cases hlen : len = 0
      ·have := hRr 0 (by omega)
       obtain ⟨y, hy⟩ : ∃ y, rest[0]? = some y := ⟨rest[0]'(by omega), yae (by omega)⟩
       rw [hy] at this; simp only [Option.bind_eq_some_iff] at this; obtain ⟨c1, hc1, _⟩ := this
       exact ⟨c1, by simpa [hlen, Addr.add] using hc1⟩
      ·obtain ⟨p, hp, _⟩ := hel1 0 (by omega)
       exact ⟨p.1, by simpa [Addr.add] using hp⟩
     obtain ⟨c1, hc1⟩ := hfirst
     obtain ⟨hspot, c, ct, fr, hblk, _⟩ := (z2c hc1).2 hpos
     have hb : a.block < w.heap.size := (yaf.1 hblk).1
     have hav : zzan w.heap.size (.slice (some a) len cap) = some (.slice (256 + a.block) a.off len cap) := by
      obtain ⟨bb, oo, ss⟩ := a
      simp only at hspot hb
      subst hspot
      cases cap with
      | zero => exact absurd rfl hcap
      | succ cap => unfold zzan; simp only []; rw [if_pos hb]
     obtain ⟨h1, h2⟩ := one hav
     refine ⟨h1, .sl (P.cellsOf e) (l.map (·.2)), ?_, ?_⟩
     ·rw [zk9]
      refine ⟨_, by rw [List.map_cons, List.map_nil, h2], l.map (fun p => p.1.map (av w.heap.size)), .inr ⟨256 + a.block, a.off, cap, by rw [yag, hl], by rw [yag, hl]; exact hlc, ⟨_, _, _, z2f hblk, .inl rfl⟩, fun i cs hi => ?_⟩, ?_⟩
      ·rw [yav] at hi
       cases hli : l[i]? with
       | none => rw [hli] at hi; cases hi
       | some p =>
        rw [hli] at hi; obtain rfl : p.1.map (av w.heap.size) = cs := by simpa using hi
        obtain ⟨k1, k2, k3, k4⟩ := hq i p hli
        obtain ⟨m1, m2⟩ := z2c k1
        obtain ⟨_, c', ct', fr', hb', hcc⟩ := m2 hpos
        have eb : (a.add (i * P.cellsOf e)).block = a.block := by unfold Addr.add; split <;> rfl
        have eo : (a.add (i * P.cellsOf e)).off = a.off + i * P.cellsOf e := by unfold Addr.add; split <;> simp_all
        rw [eb] at hb'
        rw [hblk] at hb'
        cases hb'
        rw [eo] at hcc; exact ⟨by rw [yag]; exact m1, at_old hblk m1 hcc k2⟩
      ·refine RDs.mk (by simp) fun i d cs' h1 h2 => ?_
       rw [yav] at h1 h2
       cases hli : l[i]? with
       | none => rw [hli] at h1; cases h1
       | some p =>
        rw [hli] at h1 h2; obtain rfl : p.2 = d := by simpa using h1
        obtain rfl : p.1.map (av w.heap.size) = cs' := by simpa using h2
        exact (hq i p hli).2.2.1
     ·unfold zd3
      rw [hu]; refine ⟨_, rfl, ?_, fun y hy => ?_⟩
      ·rw [yag, hl, <- hel]
       exact Nat.le_trans (yaj _ (Nat.le_add_right _ _)) hsz
      ·obtain ⟨p, hp, rfl⟩ := List.mem_map.1 hy
       obtain ⟨i, hi⟩ := List.mem_iff_getElem?.1 hp
       exact (hq i p hi).2.2.2
  | struct fs =>
   rw [hu] at hp; obtain ⟨hf, ht⟩ := hp
   obtain ⟨xs, m, hm, rfl, hlen, hxs, hel⟩ := DataW.trod_struct hu h
   obtain rfl : n = m := by omega
   simp only [DataW.weights, hu] at hw; have hel1 : ∀ i, i < fs.toList.length -> ∃ p : D, ∀ f, fs.toList[i]? = some f -> Has w.heap.size ((cs.drop f.offset).take (P.cellsOf f.type)) /\ RD (zre w) p (((cs.drop f.offset).take (P.cellsOf f.type)).map (av w.heap.size)) /\ zd3 P n f.type p := by
    intro i hi; have hi' : i < fs.size := by simpa using hi
    obtain ⟨f, hfi⟩ : ∃ f, fs.toList[i]? = some f := ⟨fs.toList[i], yae hi⟩
    have := hel i f (by simpa using hfi)
    obtain ⟨y, hy⟩ : ∃ y, xs[i]? = some y := ⟨xs[i]'(by omega), yae (by omega)⟩
    rw [hy] at this; obtain ⟨g1, d, g2, g3⟩ := ih f.type _ y (hf f (List.mem_of_getElem? hfi)) this (zj3 hw (i := i) (by rw [yav, hfi]; rfl) (by rw [yav, hy]; rfl))
    refine ⟨d, fun f' hf' => ?_⟩
    rw [hfi] at hf'
    cases hf'
    exact ⟨g1, g2, g3⟩
   obtain ⟨l, hl, hq⟩ := zq1 fs.toList.length hel1
   have hfl := zpq (cs := cs) (P := P) (fs := fs.toList) (off := 0) (by rw [hlen]; exact ht)
   rw [List.drop_zero] at hfl; refine ⟨fun v hv => ?_, .st l, ?_, ?_⟩
   ·rw [<- hfl] at hv
    obtain ⟨part, hpart, hv⟩ := List.mem_flatten.1 hv
    obtain ⟨f, hfm, rfl⟩ := List.mem_map.1 hpart
    obtain ⟨i, hi⟩ := List.mem_iff_getElem?.1 hfm
    have hi' : i < fs.toList.length := (yad.1 hi).1
    exact (hq i (l[i]'(by omega)) (yae (by omega)) f hi).1 v hv
   ·rw [zig]
    refine ⟨fs.toList.map (fun f => ((cs.drop f.offset).take (P.cellsOf f.type)).map (av w.heap.size)), ?_, RDs.mk (by simp [hl]) fun i d cs' h1 h2 => ?_⟩
    ·conv => lhs; rw [<- hfl]
     rw [List.map_flatten, List.map_map]; rfl
    ·rw [yav] at h2
     cases hfi : fs.toList[i]? with
     | none => rw [hfi] at h2; cases h2
     | some f =>
      rw [hfi] at h2; obtain rfl := Option.some.inj h2
      exact (hq i d h1 f hfi).2.1
   ·unfold zd3
    rw [hu]; exact ⟨l, rfl, zzav hl fun i f d h1 h2 => (hq i d h2 f h1).2.2⟩
  | _ => rw [hu] at hp; exact hp.elim
end
end Go.Am
namespace Go.Am
open Go Go.RowKit
structure z2j (P : Program) where
 (b i u8 u16 s limbs whole frac val expr exprs row rows table tables dfn dfns clause clauses plan : TypeId)
 hb : P.underlying b = some .bool
 hi : P.underlying i = some (.int .i64)
 hu8 : P.underlying u8 = some (.int .u8)
 hu16 : P.underlying u16 = some (.int .u16)
 hs : P.underlying s = some .string
 hlimbs : P.underlying limbs = some (.slice u16)
 hexprs : P.underlying exprs = some (.slice expr)
 hrows : P.underlying rows = some (.slice row)
 htables : P.underlying tables = some (.slice table)
 hdfns : P.underlying dfns = some (.slice dfn)
 hclauses : P.underlying clauses = some (.slice clause)
 hwhole : ∃ fs, P.underlying whole = some (.struct fs) /\ fs.toList.map (·.type) = [b, limbs]
 hfrac : ∃ fs, P.underlying frac = some (.struct fs) /\ fs.toList.map (·.type) = [whole, whole]
 hval : ∃ fs, P.underlying val = some (.struct fs) /\ fs.toList.map (·.type) = [u8, frac, i]
 hexpr : ∃ fs, P.underlying expr = some (.struct fs) /\ fs.toList.map (·.type) = [u8, s, val, exprs]
 hrow : ∃ fs, P.underlying row = some (.struct fs) /\ fs.toList.map (·.type) = [i, i, i, frac]
 htable : ∃ fs, P.underlying table = some (.struct fs) /\ fs.toList.map (·.type) = [s, b, rows]
 hdfn : ∃ fs, P.underlying dfn = some (.struct fs) /\ fs.toList.map (·.type) = [s, u8, b]
 hclause : ∃ fs, P.underlying clause = some (.struct fs) /\ fs.toList.map (·.type) = [s, s, i, i, i, b, expr, expr]
 hplan : ∃ fs, P.underlying plan = some (.struct fs) /\ fs.toList.map (·.type) = [s, dfns, tables, clauses]
 cu16 : P.cellsOf u16 = 1
 cexpr : P.cellsOf expr = 9
 crow : P.cellsOf row = 7
 ctable : P.cellsOf table = 3
 cdfn : P.cellsOf dfn = 3
 cclause : P.cellsOf clause = 24
 bytes : 1 <= P.bytesOf u16 /\ 1 <= P.bytesOf expr /\ 1 <= P.bytesOf row /\ 1 <= P.bytesOf table /\ 1 <= P.bytesOf dfn /\ 1 <= P.bytesOf clause
section
variable {P : Program} {f : Nat} {t : TypeId} {x : D}
theorem zj5 (h : zd3 P f t x) : ∃ g, f = g + 1 := by
 cases f with
 | zero => exact h.elim
 | succ g => exact ⟨g, rfl⟩
theorem zkt (ht : P.underlying t = some .bool) (h : zd3 P f t x) : ∃ b, x = .bool b := by
 obtain ⟨g, rfl⟩ := zj5 h
 unfold zd3 at h; rw [ht] at h; exact h
theorem zpn {k : IntKind} (ht : P.underlying t = some (.int k)) (h : zd3 P f t x) : ∃ n, x = .int k n /\ (Lit.int k n).wf = true := by
 obtain ⟨g, rfl⟩ := zj5 h
 unfold zd3 at h; rw [ht] at h; exact h
theorem zg5 (ht : P.underlying t = some (.int .i64)) (h : zd3 P f t x) : ∃ n, x = .int .i64 n /\ i64 n := by
 obtain ⟨n, rfl, hn⟩ := zpn ht h
 simp only [Lit.wf, yac, decide_eq_true_eq] at hn; have h1 : IntKind.i64.min = -9223372036854775808 := rfl
 have h2 : IntKind.i64.max = 9223372036854775807 := rfl
 rw [h1, h2] at hn; exact ⟨n, rfl, hn.1, by omega⟩
theorem ztk (ht : P.underlying t = some (.int .u8)) (h : zd3 P f t x) : ∃ n : Nat, x = .int .u8 (n : Int) /\ n < 256 := by
 obtain ⟨n, rfl, hn⟩ := zpn ht h
 simp only [Lit.wf, yac, decide_eq_true_eq] at hn; have h1 : IntKind.u8.min = 0 := rfl
 have h2 : IntKind.u8.max = 255 := rfl
 rw [h1, h2] at hn; exact ⟨n.toNat, by rw [show ((n.toNat : Nat) : Int) = n by omega], by omega⟩
theorem z5d (ht : P.underlying t = some (.int .u16)) (h : zd3 P f t x) : ∃ n : Nat, x = .int .u16 (n : Int) /\ n < 65536 := by
 obtain ⟨n, rfl, hn⟩ := zpn ht h
 simp only [Lit.wf, yac, decide_eq_true_eq] at hn; have h1 : IntKind.u16.min = 0 := rfl
 have h2 : IntKind.u16.max = 65535 := rfl
 rw [h1, h2] at hn; exact ⟨n.toNat, by rw [show ((n.toNat : Nat) : Int) = n by omega], by omega⟩
theorem zij (ht : P.underlying t = some .string) (h : zd3 P f t x) : ∃ l : List Nat, x = .str l /\ l.length < zf9 /\ ∀ c ∈ l, c < 256 := by
 obtain ⟨g, rfl⟩ := zj5 h
 unfold zd3 at h; rw [ht] at h; obtain ⟨l, h1, h2, h3⟩ := h
 unfold reachBytes at h2; exact ⟨l, h1, by unfold zf9; omega, h3⟩
theorem zfr {e : TypeId} {sz : Nat} (ht : P.underlying t = some (.slice e)) (hc : P.cellsOf e = sz) (hb : 1 <= P.bytesOf e) (h : zd3 P f t x) : ∃ (l : List D) (g : Nat), f = g + 1 /\ x = .sl sz l /\ l.length < zf9 /\ ∀ y ∈ l, zd3 P g e y := by
 obtain ⟨g, rfl⟩ := zj5 h
 unfold zd3 at h; rw [ht] at h; obtain ⟨l, h1, h2, h3⟩ := h
 have : l.length <= l.length * P.bytesOf e := Nat.le_mul_of_pos_right _ hb
 unfold reachBytes at h2; exact ⟨l, g, rfl, by rw [<- hc]; exact h1, by unfold zf9; omega, h3⟩
theorem zec.ofMap {α β γ : Type} {k : α -> γ} {R : γ -> β -> Prop} : ∀ {l : List α} {m : List β}, zec (fun a b => R (k a) b) l m -> zec R (l.map k) m
 | [], _, .nil => .nil
 | _ :: _, _ :: _, .cons h r => .cons h (zec.ofMap r)
theorem zc8 {ts : List TypeId} (ht : ∃ fs, P.underlying t = some (.struct fs) /\ fs.toList.map (·.type) = ts) (h : zd3 P f t x) : ∃ (l : List D) (g : Nat), f = g + 1 /\ x = .st l /\ zec (fun t y => zd3 P g t y) ts l := by
 obtain ⟨fs, ht, rfl⟩ := ht
 obtain ⟨g, rfl⟩ := zj5 h
 unfold zd3 at h; rw [ht] at h; obtain ⟨l, h1, h2⟩ := h
 exact ⟨l, g, rfl, h1, zec.ofMap h2⟩
theorem zec.cons_inv {α β : Type} {R : α -> β -> Prop} {a : α} {l : List α} {m : List β} (h : zec R (a :: l) m) : ∃ b r, m = b :: r /\ R a b /\ zec R l r := by
 cases h with
 | cons h1 h2 => exact ⟨_, _, rfl, h1, h2⟩
theorem zec.nil_inv {α β : Type} {R : α -> β -> Prop} {m : List β} (h : zec R ([] : List α) m) : m = [] := by
 cases h; rfl
theorem zft {α β : Type} {g : α -> β} {Q : α -> Prop} : ∀ {l : List β}, (∀ y ∈ l, ∃ a, y = g a /\ Q a) -> ∃ m : List α, l = m.map g /\ ∀ a ∈ m, Q a
 | [], _ => ⟨[], rfl, fun _ h => by cases h⟩
 | y :: l, h => by
  obtain ⟨a, h1, h2⟩ := h y (by simp)
  obtain ⟨m, h3, h4⟩ := zft (l := l) fun z hz => h z (yas _ hz)
  exact ⟨a :: m, by simp [h1, h3], fun b hb => by
   rcases yat.1 hb with rfl | hb
   ·exact h2
   ·exact h4 b hb⟩
end
namespace z2j
section
variable {P : Program} (A : z2j P) {f : Nat} {x : D}
theorem dWhole (h : zd3 P f A.whole x) : ∃ w : zdq, x = w.d /\ w.limbs.length < zf9 /\ za5 65536 w.limbs := by
 obtain ⟨l, g, rfl, rfl, k⟩ := zc8 A.hwhole h
 obtain ⟨d1, r, rfl, h1, k⟩ := k.cons_inv
 obtain ⟨d2, r, rfl, h2, k⟩ := k.cons_inv
 obtain rfl := k.nil_inv
 obtain ⟨b, rfl⟩ := zkt A.hb h1
 obtain ⟨l, g, rfl, rfl, hl, hm⟩ := zfr A.hlimbs A.cu16 A.bytes.1 h2
 obtain ⟨m, rfl, hq⟩ := zft (g := fun n : Nat => D.int .u16 (n : Int)) (Q := fun n => n < 65536) fun y hy => z5d A.hu16 (hm y hy)
 exact ⟨⟨b, m⟩, rfl, by simpa using hl, hq⟩
theorem dFrac (h : zd3 P f A.frac x) : ∃ w : zem, x = w.dd /\ w.fit := by
 obtain ⟨l, g, rfl, rfl, k⟩ := zc8 A.hfrac h
 obtain ⟨d1, r, rfl, h1, k⟩ := k.cons_inv
 obtain ⟨d2, r, rfl, h2, k⟩ := k.cons_inv
 obtain rfl := k.nil_inv
 obtain ⟨a, rfl, a1, a2⟩ := A.dWhole h1
 obtain ⟨b, rfl, b1, b2⟩ := A.dWhole h2
 exact ⟨⟨a, b⟩, rfl, ⟨a1, b1⟩, a2, b2⟩
theorem dVal (h : zd3 P f A.val x) : ∃ w : zcg, x = w.d /\ w.fit := by
 obtain ⟨l, g, rfl, rfl, k⟩ := zc8 A.hval h
 obtain ⟨d1, r, rfl, h1, k⟩ := k.cons_inv
 obtain ⟨d2, r, rfl, h2, k⟩ := k.cons_inv
 obtain ⟨d3, r, rfl, h3, k⟩ := k.cons_inv
 obtain rfl := k.nil_inv
 obtain ⟨kk, rfl, hk⟩ := ztk A.hu8 h1
 obtain ⟨q, rfl, hq⟩ := A.dFrac h2
 obtain ⟨n, rfl, hn⟩ := zg5 A.hi h3
 exact ⟨⟨kk, q, n⟩, rfl, hk, hq, hn.1, hn.2⟩
theorem z9h : ∀ {l : List zam}, (∀ x ∈ l, x.fit) -> zam.fits l
 | [], _ => by unfold zam.fits; trivial
 | x :: l, h => by unfold zam.fits; exact ⟨h x (by simp), z9h fun y hy => h y (yas _ hy)⟩
theorem dExpr : ∀ (f : Nat) (x : D), zd3 P f A.expr x -> ∃ w : zam, x = w.d /\ w.fit := by
 intro f; induction f using Nat.strongRecOn with
 | _ f ih =>
 intro x h; obtain ⟨l, g, rfl, rfl, k⟩ := zc8 A.hexpr h
 obtain ⟨d1, r, rfl, h1, k⟩ := k.cons_inv
 obtain ⟨d2, r, rfl, h2, k⟩ := k.cons_inv
 obtain ⟨d3, r, rfl, h3, k⟩ := k.cons_inv
 obtain ⟨d4, r, rfl, h4, k⟩ := k.cons_inv
 obtain rfl := k.nil_inv
 obtain ⟨kk, rfl, hk⟩ := ztk A.hu8 h1
 obtain ⟨n, rfl, hn, hn'⟩ := zij A.hs h2
 obtain ⟨v, rfl, hv⟩ := A.dVal h3
 obtain ⟨l, g', rfl, rfl, hl, hm⟩ := zfr A.hexprs A.cexpr A.bytes.2.1 h4
 obtain ⟨m, rfl, hq⟩ := zft (g := zam.d) (Q := zam.fit) fun y hy => ih g' (by omega) y (hm y hy)
 refine ⟨.mk kk n v m, ?_, ?_⟩
 ·rw [zam.d, zam.ds_eq]
 ·unfold zam.fit
  exact ⟨hk, hn, hn', hv, by simpa using hl, z9h hq⟩
theorem dRow (h : zd3 P f A.row x) : ∃ w : zhs, x = w.d /\ w.fit := by
 obtain ⟨l, g, rfl, rfl, k⟩ := zc8 A.hrow h
 obtain ⟨d1, r, rfl, h1, k⟩ := k.cons_inv
 obtain ⟨d2, r, rfl, h2, k⟩ := k.cons_inv
 obtain ⟨d3, r, rfl, h3, k⟩ := k.cons_inv
 obtain ⟨d4, r, rfl, h4, k⟩ := k.cons_inv
 obtain rfl := k.nil_inv
 obtain ⟨a, rfl, ha⟩ := zg5 A.hi h1
 obtain ⟨b, rfl, hb⟩ := zg5 A.hi h2
 obtain ⟨c, rfl, hc⟩ := zg5 A.hi h3
 obtain ⟨q, rfl, hq⟩ := A.dFrac h4
 exact ⟨⟨a, b, c, q⟩, rfl, ha, hb, hc, hq⟩
theorem dTable (h : zd3 P f A.table x) : ∃ w : zb9, x = w.d /\ w.fit := by
 obtain ⟨l, g, rfl, rfl, k⟩ := zc8 A.htable h
 obtain ⟨d1, r, rfl, h1, k⟩ := k.cons_inv
 obtain ⟨d2, r, rfl, h2, k⟩ := k.cons_inv
 obtain ⟨d3, r, rfl, h3, k⟩ := k.cons_inv
 obtain rfl := k.nil_inv
 obtain ⟨n, rfl, hn, _⟩ := zij A.hs h1
 obtain ⟨b, rfl⟩ := zkt A.hb h2
 obtain ⟨l, g', rfl, rfl, hl, hm⟩ := zfr A.hrows A.crow A.bytes.2.2.1 h3
 obtain ⟨m, rfl, hq⟩ := zft (g := zhs.d) (Q := zhs.fit) fun y hy => A.dRow (hm y hy)
 exact ⟨⟨n, b, m⟩, rfl, hn, by simpa using hl, hq⟩
theorem dDef (h : zd3 P f A.dfn x) : ∃ w : zxp, x = w.d /\ w.fit := by
 obtain ⟨l, g, rfl, rfl, k⟩ := zc8 A.hdfn h
 obtain ⟨d1, r, rfl, h1, k⟩ := k.cons_inv
 obtain ⟨d2, r, rfl, h2, k⟩ := k.cons_inv
 obtain ⟨d3, r, rfl, h3, k⟩ := k.cons_inv
 obtain rfl := k.nil_inv
 obtain ⟨n, rfl, hn, _⟩ := zij A.hs h1
 obtain ⟨kk, rfl, hk⟩ := ztk A.hu8 h2
 obtain ⟨b, rfl⟩ := zkt A.hb h3
 exact ⟨⟨n, kk, b⟩, rfl, hn, hk⟩
theorem dClause (h : zd3 P f A.clause x) : ∃ w : za4, x = w.d /\ w.fit := by
 obtain ⟨l, g, rfl, rfl, k⟩ := zc8 A.hclause h
 obtain ⟨d1, r, rfl, h1, k⟩ := k.cons_inv
 obtain ⟨d2, r, rfl, h2, k⟩ := k.cons_inv
 obtain ⟨d3, r, rfl, h3, k⟩ := k.cons_inv
 obtain ⟨d4, r, rfl, h4, k⟩ := k.cons_inv
 obtain ⟨d5, r, rfl, h5, k⟩ := k.cons_inv
 obtain ⟨d6, r, rfl, h6, k⟩ := k.cons_inv
 obtain ⟨d7, r, rfl, h7, k⟩ := k.cons_inv
 obtain ⟨d8, r, rfl, h8, k⟩ := k.cons_inv
 obtain rfl := k.nil_inv
 obtain ⟨n, rfl, hn, _⟩ := zij A.hs h1
 obtain ⟨l, rfl, hl, _⟩ := zij A.hs h2
 obtain ⟨a, rfl, ha⟩ := zg5 A.hi h3
 obtain ⟨b, rfl, hb⟩ := zg5 A.hi h4
 obtain ⟨c, rfl, hc⟩ := zg5 A.hi h5
 obtain ⟨o, rfl⟩ := zkt A.hb h6
 obtain ⟨w, rfl, hw⟩ := A.dExpr _ _ h7
 obtain ⟨v, rfl, hv⟩ := A.dExpr _ _ h8
 exact ⟨⟨n, l, a, b, c, o, w, v⟩, rfl, hn, hl, ha, hb, hc, hw, hv⟩
theorem dPlan (h : zd3 P f A.plan x) : ∃ w : zi6, x = w.d /\ w.fit := by
 obtain ⟨l, g, rfl, rfl, k⟩ := zc8 A.hplan h
 obtain ⟨d1, r, rfl, h1, k⟩ := k.cons_inv
 obtain ⟨d2, r, rfl, h2, k⟩ := k.cons_inv
 obtain ⟨d3, r, rfl, h3, k⟩ := k.cons_inv
 obtain ⟨d4, r, rfl, h4, k⟩ := k.cons_inv
 obtain rfl := k.nil_inv
 obtain ⟨n, rfl, hn, _⟩ := zij A.hs h1
 obtain ⟨l2, g2, rfl, rfl, hl2, hm2⟩ := zfr A.hdfns A.cdfn A.bytes.2.2.2.2.1 h2
 obtain ⟨l3, g3, _, rfl, hl3, hm3⟩ := zfr A.htables A.ctable A.bytes.2.2.2.1 h3
 obtain ⟨l4, g4, _, rfl, hl4, hm4⟩ := zfr A.hclauses A.cclause A.bytes.2.2.2.2.2 h4
 obtain ⟨m2, rfl, hq2⟩ := zft (g := zxp.d) (Q := zxp.fit) fun y hy => A.dDef (hm2 y hy)
 obtain ⟨m3, rfl, hq3⟩ := zft (g := zb9.d) (Q := zb9.fit) fun y hy => A.dTable (hm3 y hy)
 obtain ⟨m4, rfl, hq4⟩ := zft (g := za4.d) (Q := za4.fit) fun y hy => A.dClause (hm4 y hy)
 exact ⟨⟨n, m2, m3, m4⟩, rfl, ⟨hn, by simpa using hl2, by simpa using hl3, by simpa using hl4, hq2, hq3, hq4⟩⟩
end
end z2j
end Go.Am
namespace Go.Am
open Go Go.RowKit Go.Proofs
section
variable {w : World}
theorem z89 (h : zcy w) : z2i (zre w) := by
 obtain ⟨t, h⟩ := h.kinds
 have hb := (yaf.1 h).1
 have e : (zre w).get 0 = some (.cells (zv1 (fun j => ((zzbe zd9).toArray[j]?).bind (zzan w.heap.size)) (zzbe zd9).toArray.size) (zzbe zd9).toArray.size none) := by
  unfold zre; rw [zfh, if_pos (by omega), if_pos (by omega), h]
  rfl
 refine ⟨_, _, _, e, fun j a ha => ?_⟩
 rw [zfh, yax]; have hj : j < zop.length := by
  have := (yad.1 ha).1
  simpa using this
 have hb2 : zop.map zab.str = zd9.map fun b => zab.str (b.map UInt8.toNat) := zvh.symm
 rw [hb2, yav] at ha
 cases hbt : zd9[j]? with
 | none => rw [hbt] at ha; cases ha
 | some b =>
  rw [hbt] at ha; obtain rfl := Option.some.inj ha
  have hlt : j < zd9.length := (yad.1 hbt).1
  rw [if_pos (by simp [zzbe]; exact hlt)]
  simp only [zzbe, List.getElem?_toArray, yav, hbt, Option.map_some, Option.bind_some, zzan]; simp [zbm]
theorem zzha {b : Nat} {y : zal} (h : (zre w).get b = some y) : b < 256 + w.heap.size := by
 unfold zre at h; rw [zfh] at h; split at h
 ·assumption
 ·cases h
theorem zzht {cs : List Value} (h : Has w.heap.size cs) : zby (muW w) (cs.map (av w.heap.size)) cs := by
 induction cs with
 | nil => exact .nil
 | cons v l ih => exact .cons (z2e (h v (by simp))) (ih fun u hu => h u (yas _ hu))
theorem z2s (hL : zcy w) (f : Nat) (args : List zab) (args' : Array Value) (hp : ∀ [zcf], C19.prims.get f = none) (hl : zby (muW w) args args'.toList)
  (h : ∀ [zcf], ∃ Q : zaw, Wc C19 F f args (zre w) Q /\ ∀ v t, Q v t -> v = .bool true) :
  Calls Tryz.prog f args' w fun e w' => e = .returned (.bool true) /\ Below w.heap.size w w' := by
 letI : zcf := ⟨w.heap.size⟩
 obtain ⟨Q, h1, h2⟩ := h
 refine (zzu (H := ⟨256 + w.heap.size, zre w⟩) (sim19 hL.size) hL zzih hp (yal _) (fun b y hb => zzha hb) hrelW hl h1).mono fun e w' ⟨v, v', t', μ', g1, g2, g3, g4, g5⟩ => ?_
 have := h2 v t' g4
 subst this; rw [zaq] at g3; exact ⟨by rw [g1, g3], g5⟩
theorem zzb5 {cs : Array Value} (h : Has w.heap.size cs.toList) : zaq (muW w) (.agg (cs.toList.map (av w.heap.size))) (.agg cs) := by
 rw [zaq]; exact ⟨cs, rfl, zzht h⟩
end
end Go.Am
namespace Go.Am
open Go Go.RowKit Go.ChangeShapes Go.WideShapes Go.ChangeAt
section
variable {H : Type} {enc : TypeId × Value -> H} {P : Program}
theorem zl8 (hl : laidOutB P = true) {W W' : World} (hb : Below W.heap.size W W') : ∀ {ts : List TypeId} {vs : List Value} {ds : List (DataW H)} {ps : List MemPlace}, (∀ t ∈ ts, P.readableRec t = true /\ t < P.types.size) →
  DataW.TrodAll enc P W 0 (fun _ => true) true ts vs ds ps -> (∀ x ∈ ps, x.block < W.heap.size) -> DataW.TrodAll enc P W' 0 (fun b => decide (b < W.heap.size)) true ts vs ds ps
 | [], [], [], _, _, h, _ => h
 | t :: ts, _ :: _, _ :: _, _, ht, ⟨p, q, h1, h2, e⟩, hs => by
  subst e; exact ⟨p, q, Below.trod hl (ht t (by simp)).1 (ht t (by simp)).2 h1 hb fun x hx => hs x (List.mem_append_left _ hx),
   zl8 hl hb (fun t ht' => ht t (yas _ ht')) h2 fun x hx => hs x (ybg _ hx), rfl⟩
 | [], _ :: _, _, _, _, h, _ => by simp [DataW.TrodAll] at h
 | [], [], _ :: _, _, _, h, _ => by simp [DataW.TrodAll] at h
 | _ :: _, [], _, _, _, h, _ => by simp [DataW.TrodAll] at h
 | _ :: _, _ :: _, [], _, _, h, _ => by simp [DataW.TrodAll] at h
theorem law_post (hl : laidOutB P = true) {f : Func} {s : ChangeSpec} {tb : TypeId} (hp : ∀ t ∈ f.params.toList, P.readableRec t = true /\ t < P.types.size) (hv : s.vars = []) (hres : f.resultTypes = #[tb]) (htb : P.underlying tb = some .bool)
  {W W' : World} {args : Array Value} {ds gs : List (DataW H)} {before : List MemPlace} (hfn : s.fn H ds = { results := [.lit (.bool true)], args := ds })
  (hW : DataW.Whole enc P f.params.toList s.vars false W args.toList ds gs before) (hb : Below W.heap.size W W') :
  s.post enc P f false true false false W args (.bool true) W' := by
 have hW0 := hW
 obtain ⟨p, q, hA, hV, rfl, hfz, hnd⟩ := hW
 rw [hv] at hV; obtain ⟨rfl, rfl⟩ := trodVars_none hV
 refine ⟨ds, [], p ++ [], [], p, [], hW0, ?_, ?_, ?_, hb.frame _, fun h => by cases h⟩
 ·rw [ybe, hfn, hres]
  exact trodAll_mk1 (shut_bool htb _)
 ·rw [ybe, hfn]
  exact zl8 hl hb hp hA fun x hx => hW0.lt x (by simpa using hx)
 ·rw [ybe, hfn, hv]
  exact rfl
theorem z0y {a : Assume} {C : Checked} {os : Os} {f : FuncId} {fn : Func} {s : ChangeSpec} {conds : List PathCond} {apart fresh handsOn again : Bool} {X : World -> Array Value -> Prop}
  (hX : ∀ (w w' : World) (args : Array Value), w.heap = w'.heap -> X w args -> X w' args)
  (own : ownKnob C.prog.godebug = none) (started : os.Started) (noInit : C.prog.inits.idxOf? f = none) (hfn : C.prog.funcs[f]? = some fn)
  (witness : ∃ (w : World) (tape : Tape) (i : Input), w.os = os /\ (w.forCall tape i).Shaped C.prog /\ i.vars = [] /\ Input.okWide C.prog (w.forCall tape i) .any w.heap.size f i ∧
   ((s.pre enc C.prog fn conds apart (w.forCall tape i).memory i.args /\ X (w.forCall tape i).memory i.args) /\ sizedMet enc C.prog fn (OpenSpec.ofChange s) apart (w.forCall tape i).memory i.args) /\ a.holds C.prog (lone (Frame.enter C.prog f i.args .normal) [] (w.forCall tape i)))
  (contract : ∀ (W : World) (base : Nat) (args : Array Value) (ds gs : List (DataW H)) (before : List MemPlace),
   (∀ (j : Nat) t v, fn.params[j]? = some t -> args[j]? = some v -> Value.okWide C.prog W .any base t v) →
   DataW.Whole enc C.prog fn.params.toList s.vars apart W args.toList ds gs before →
   (DataW.weightsEach C.prog (fn.params.toList ++ s.plain.varTypes C.prog) (ds ++ gs)).all (· <= reachBytes) = true -> X W args -> W.ShapedOpen C.prog →
   Calls C.prog f args W fun e W' => ∃ v, e = .returned v /\ s.post enc C.prog fn apart fresh handsOn again W args v W') :
  ReturnsInHanded a C os f .any (fun w args => (s.pre enc C.prog fn conds apart w args /\ X w args) /\ sizedMet enc C.prog fn (OpenSpec.ofChange s) apart w args) (s.post enc C.prog fn apart fresh handsOn again) := by
 refine returnsInHanded_of_calls own started noInit witness ?_
 intro w tape i _ hsh _ hok hpre _; obtain ⟨_, _, _, fn', hfn', _, _, _, _, hval⟩ := hok
 have e : fn' = fn := Option.some.inj (hfn'.symm.trans hfn)
 subst e; obtain ⟨⟨⟨ds, gs, before, hw, hc⟩, hx⟩, hz⟩ := hpre
 have hw' := DataW.Whole.of_heap (w' := w.forCall tape i) (by rfl) hw
 refine (contract (w.forCall tape i) w.heap.size i.args ds gs before hval hw' (hz.weights hw) (hX _ _ _ (by rfl) hx) hsh).mono fun e W' ⟨v, he, hp⟩ => ?_
 subst he; exact ChangeSpec.post_blind hp
variable {w : World} {base : Nat} {spare : Nat -> Bool} {held : Bool} {fuel : Nat} {t e : TypeId} {cs : List Value} {ps : List MemPlace}
theorem zxf {α : Type} {g : α -> DataW H} {u : α -> Value} {l : List α} {n : Nat} (ht : P.underlying t = some (.array n e)) (hc : P.cellsOf e = 1) (hn : P.cellsOf t = n)
  (h1 : ∀ (m : Nat) (c : List Value) (x : DataW H × List MemPlace) (a : α), DataW.trod enc P w base spare held m e c = some x -> x.1 = g a -> c = [u a])
  (h : DataW.trod enc P w base spare held fuel t cs = some (.agg (l.map g), ps)) : cs = l.map u := by
 obtain ⟨xs, m, _, hx, hlen, hxs, hel⟩ := DataW.trod_array ht h
 simp only [Prod.mk.injEq, DataW.agg.injEq] at hx; have hl : l.length = n := by have := congrArg List.length hx.1; simp [hxs] at this; exact this
 rw [hn] at hlen; refine List.ext_getElem (by rw [hlen, yag, hl]) fun i hi1 hi2 => ?_
 have hi : i < n := by omega
 have := hel i hi
 rw [hc] at this; have hc1 : ((cs.drop (i * 1)).take 1) = [cs[i]] := by
  rw [Nat.mul_one, yam hi1]; rfl
 rw [hc1, yae (by omega)] at this
 have hxi : xs[i].1 = g (l[i]'(by omega)) := by
  have := congrArg (fun z => z[i]?) hx.1
  simp only [yav] at this; rw [yae (by omega), yae (by omega)] at this
  simpa using this.symm
 have := h1 m _ _ _ this hxi
 rw [List.getElem_map]; simpa using this
theorem zzbf (he : P.underlying e = some .string) (m : Nat) (c : List Value) (x : DataW H × List MemPlace) (b : List UInt8) (h : DataW.trod enc P w base spare held m e c = some x) (hx : x.1 = .lit (.string b)) : c = [.string ⟨b.toArray⟩] := by
 obtain ⟨s, rfl, rfl, _⟩ := DataW.trod_string he h
 simp at hx; rw [<- hx]
end
theorem joined_of {P : Program} {f : FuncId} {fn : Func} {s : ChangeSpec} {c : OpenClaim}
  (A : (c.wf (OpenSpec.ofChange s) && laidOutB P && mapsRowed P && fn.params.all (P.readableRec ·) && namedTie P c.named s.vars && (c.stops == []) && (P.stops == []) && (c.knobs == []) && (P.stopKnobs == [])) = true)
  (h1 : (c.inPlace == P.inPlace f) = true) (h2 : (c.unfollowed == P.unfollowed f) = true) (h3 : (c.recurses == P.recurses f) = true) (h4 : (c.named == P.varsNamed f) = true)
  (E : ((c.maps == (fn.params.toList ++ s.plain.varTypes P).any (P.mapsRec ·)) && (c.ifaces == (fn.params.toList ++ s.plain.varTypes P).any (P.ifacesRec ·)) && (c.mapsOut == P.mapsAmong fn.resultTypes.toList) &&
   (c.loops == (fn.params.toList ++ s.plain.varTypes P).any (P.loopsFrom ·)) && (c.wideKeys == (fn.params.toList ++ s.plain.varTypes P ++ fn.resultTypes.toList).any (P.wideKeysFrom ·)) &&
   s.vars.all (P.varReadable ·) && fn.resultTypes.all (fun t => P.readableRec t && decide (t < P.types.size)) && (c.ifacesOut == fn.resultTypes.toList.any (P.ifacesRec ·)) && (c.loopsOut == fn.resultTypes.toList.any (P.loopsFrom ·)) && c.shortTexts.isNone) = true)
  (h5 : (c.plainKeys == P.plainKeys) = true) (h6 : P.stopsHeard = true) (h7 : P.mayEnter = true) (h8 : (c.lifted == P.liftsFinal) = true)
  (R : ((P.make == some c.make) && (c.kinds == (if c.domain.isEmpty then [] else fn.params.toList.map fun t => match P.underlying t with | some (.int k) => some k | _ => none)) && (c.pinned == c.pinnedBy) &&
   (c.veiled == (fn.params.toList ++ s.plain.varTypes P ++ fn.resultTypes.toList).any (P.veiledRec ·)) && c.veiledFits P fn.params.toList (fn.params.toList ++ s.plain.varTypes P ++ fn.resultTypes.toList)) = true) :
  joinedFacts P f fn s c = true := by
 unfold joinedFacts; simp only [yac] at A E R ⊢
 obtain ⟨⟨⟨⟨⟨⟨⟨⟨a1, a2⟩, a3⟩, a4⟩, a5⟩, a6⟩, a7⟩, a8⟩, a9⟩ := A
 obtain ⟨⟨⟨⟨⟨⟨⟨⟨⟨e1, e2⟩, e3⟩, e4⟩, e5⟩, e6⟩, e7⟩, e8⟩, e9⟩, e10⟩ := E
 obtain ⟨⟨⟨⟨r1, r2⟩, r3⟩, r4⟩, r5⟩ := R
 exact ⟨⟨⟨⟨⟨⟨⟨⟨⟨⟨⟨⟨⟨⟨⟨⟨⟨⟨⟨⟨⟨⟨⟨⟨⟨⟨⟨⟨⟨⟨⟨a1, a2⟩, a3⟩, a4⟩, a5⟩, a6⟩, a7⟩, a8⟩, a9⟩, h1⟩, h2⟩, h3⟩, h4⟩, e1⟩, e2⟩, e3⟩, e4⟩, e5⟩, e6⟩, e7⟩, e8⟩, e9⟩, h5⟩, e10⟩, h6⟩, h7⟩, h8⟩, r1⟩, r2⟩, r3⟩, r4⟩, r5⟩
end Go.Am
namespace Go.Proofs.YthmbkdkibhffbaaGreatDoor
open Go Go.Am Go.RowKit Go.ChangeShapes Go.WideShapes Go.ChangeAt
theorem own : ownKnob Tryz.prog.godebug = none := by kernel_rfl
theorem laidOut : laidOutB Tryz.prog = true := by kernel_rfl
theorem gPow : Tryz.prog.globalNamed "internal/strconv.uint64pow10" = some 5 := by kernel_rfl
theorem gKinds : Tryz.prog.globalNamed "annuitant/operation.argumentKinds" = some 0 := by kernel_rfl
theorem tPow : (Tryz.prog.globals[5]?).map (·.type) = some 365 := by kernel_rfl
theorem tKinds : (Tryz.prog.globals[0]?).map (·.type) = some 273 := by kernel_rfl
def laid4 : List (String × DataW Unit) := [("math/bits.deBruijn32tab", Rows.laid_math_bits_deBruijn32tab), ("math/bits.deBruijn64tab", Rows.laid_math_bits_deBruijn64tab), ("internal/strconv.uint64pow10", Rows.laid_internal_strconv_uint64pow10), ("annuitant/operation.argumentKinds", Rows.laid_annuitant_operation_argumentKinds)]
theorem door_met (os : Os) (args : Array Value) : laidMetH Tryz.prog laid4 ((World.doorLaid Tryz.prog 60 os).forCall (fun _ _ => 0) ⟨#[], args, []⟩).memory :=
 laidMetH_of_parts3 (fuel := 8) (laidMet_of_run' 8 (by kernel_rfl) (by kernel_rfl)) (by kernel_rfl) (by kernel_rfl)
theorem zu5 {W : World} {n : String} {g : Nat} {cs : Array Value} (hg : Tryz.prog.globalNamed n = some g) (hv : W.var? Tryz.prog n = some cs) (hc : ∃ c t, W.heap[g]? = some (.cells c t (0, 0))) : ∃ t, W.heap[g]? = some (.cells cs t (0, 0)) := by
 obtain ⟨c, t, hc⟩ := hc
 unfold World.var? at hv
 rw [hg] at hv; simp only [Option.bind_some, hc, Option.some.injEq] at hv; subst hv; exact ⟨t, hc⟩
theorem z6s {g n : Nat} {p q : List MemPlace} (h : 0 < n) : MemPlace.cell g 0 ∈ MemPlace.row ⟨g, 0, none⟩ n ++ p ++ q :=
 List.mem_append_left _ (List.mem_append_left _ (List.mem_map.2 ⟨0, List.mem_range.2 h, rfl⟩))
theorem z8a : Rows.laid_annuitant_operation_argumentKinds (H := Unit) = .agg (zd9.map fun b => .lit (.string b)) := by kernel_rfl
theorem zzhg : Rows.laid_internal_strconv_uint64pow10 (H := Unit) = .agg (zlj.map fun n => .lit (.int .u64 n)) := by kernel_rfl
theorem zza4 {H : Type} {enc : TypeId × Value -> H} {P : Program} {w : World} {base : Nat} {spare : Nat -> Bool} {held : Bool} {e : TypeId} (he : P.underlying e = some (.int .u64)) (m : Nat) (c : List Value) (x : DataW H × List MemPlace) (n : Int) (h : DataW.trod enc P w base spare held m e c = some x) (hx : x.1 = .lit (.int .u64 n)) : c = [.int .u64 n] := by
 obtain ⟨k, rfl, rfl, _⟩ := DataW.trod_int he h
 simp at hx; rw [hx]
theorem laid_of {W : World} (h : laidMetH Tryz.prog laid4 W) (hsh : W.ShapedOpen Tryz.prog) : zcy W := by
 rw [MakeChecks.laidMetH_plain _ _ _ (by kernel_rfl)] at h
 obtain ⟨ps, ⟨_, _, _, _, _, _, _, _, _, _, ⟨_, _, _, _, _, _, _, _, _, _, ⟨g0, t0, cs0, f0, p0, q0, hg0, ht0, hv0, hd0, ⟨g1, t1, cs1, f1, p1, q1, hg1, ht1, hv1, hd1, _, hp1⟩, hp0⟩, hpb⟩, hpa⟩, _, hcell⟩ := h
 obtain rfl := Option.some.inj (gPow.symm.trans hg0)
 obtain rfl := Option.some.inj (gKinds.symm.trans hg1)
 obtain rfl := Option.some.inj (tPow.symm.trans ht0)
 obtain rfl := Option.some.inj (tKinds.symm.trans ht1)
 have c56 : Tryz.prog.cellsOf 56 = 1 := by kernel_rfl
 have c9 : Tryz.prog.cellsOf 9 = 1 := by kernel_rfl
 have c365 : Tryz.prog.cellsOf 365 = 20 := by kernel_rfl
 have c273 : Tryz.prog.cellsOf 273 = 27 := by kernel_rfl
 rw [zzhg] at hd0; rw [z8a] at hd1; have e0 : cs0.toList = u64s zlj := zxf (l := zlj) (g := fun n => .lit (.int .u64 n)) (u := fun n => .int .u64 n) Tryz.underlying365 c56 c365 (fun m c x a => zza4 Tryz.underlying56 m c x a) hd0
 have e1 : cs1.toList = zzbe zd9 := zxf (l := zd9) (g := fun b => .lit (.string b)) (u := fun b => .string ⟨b.toArray⟩) Tryz.underlying273 c9 c273 (fun m c x a => zzbf Tryz.underlying9 m c x a) hd1
 have s0 : cs0 = (u64s zlj).toArray := by rw [<- e0]
 have s1 : cs1 = (zzbe zd9).toArray := by rw [<- e1]
 subst s0 s1
 have m0 : MemPlace.cell 5 0 ∈ ps := by
  rw [hpa, hpb, hp0]; exact ybg _ (ybg _ (z6s (by decide)))
 have m1 : MemPlace.cell 0 0 ∈ ps := by
  rw [hpa, hpb, hp0, hp1]; exact ybg _ (ybg _ (ybg _ (z6s (by decide))))
 exact ⟨zu5 hg1 hv1 (hcell 0 0 m1).1, Tryz.laysM144.s1_3 W hsh, zu5 hg0 hv0 (hcell 5 0 m0).1⟩
theorem stopsHeard : Tryz.prog.stopsHeard = true := by kernel_rfl
theorem mayEnter : Tryz.prog.mayEnter = true := by kernel_rfl
theorem bool4 : Tryz.prog.underlying 4 = some .bool := Tryz.underlying4
def api19 : z2j Tryz.prog := {
 b := 4, i := 3, u8 := 5, u16 := 227, s := 9, limbs := 41, whole := 43, frac := 45, val := 47, expr := 50, exprs := 48, row := 85, rows := 80, table := 82, tables := 23, dfn := 79, dfns := 22, clause := 52, clauses := 24, plan := 26,
 hb := Tryz.underlying4, hi := Tryz.underlying3, hu8 := Tryz.underlying5, hu16 := Tryz.underlying227, hs := Tryz.underlying9, hlimbs := Tryz.underlying41, hexprs := Tryz.underlying48, hrows := Tryz.underlying80, htables := Tryz.underlying23, hdfns := Tryz.underlying22, hclauses := Tryz.underlying24,
 hwhole := ⟨_, Tryz.underlying43, rfl⟩, hfrac := ⟨_, Tryz.underlying45, rfl⟩, hval := ⟨_, Tryz.underlying47, rfl⟩, hexpr := ⟨_, Tryz.underlying50, rfl⟩, hrow := ⟨_, Tryz.underlying85, rfl⟩, htable := ⟨_, Tryz.underlying82, rfl⟩, hdfn := ⟨_, Tryz.underlying79, rfl⟩, hclause := ⟨_, Tryz.underlying52, rfl⟩, hplan := ⟨_, Tryz.underlying26, rfl⟩,
 cu16 := by kernel_rfl, cexpr := by kernel_rfl, crow := by kernel_rfl, ctable := by kernel_rfl, cdfn := by kernel_rfl, cclause := by kernel_rfl,
 bytes := ⟨of_decide_eq_true (by kernel_rfl), of_decide_eq_true (by kernel_rfl), of_decide_eq_true (by kernel_rfl), of_decide_eq_true (by kernel_rfl), of_decide_eq_true (by kernel_rfl), of_decide_eq_true (by kernel_rfl)⟩ }
def z06 : List Nat := [4, 3, 5, 227, 9, 41, 43, 45, 47, 50, 48, 85, 80, 82, 23, 79, 22, 52, 24, 26]
def partB (t : TypeId) : Bool := match Tryz.prog.underlying t with
 | some .bool => true
 | some (.int _) => true
 | some .string => true
 | some (.slice e) => z06.contains e && Nat.blt 0 (Tryz.prog.cellsOf e)
 | some (.struct fs) => fs.toList.all (fun f => z06.contains f.type) && z2v Tryz.prog 0 fs.toList (Tryz.prog.cellsOf t)
 | _ => false
theorem zyq : z06.all partB = true := by kernel_rfl
theorem zzgw : Plain Tryz.prog (fun t => t ∈ z06) := ⟨fun t ht => by
 have h := ybc.1 zyq t ht
 unfold partB at h
 cases hu : Tryz.prog.underlying t with
 | none => rw [hu] at h; cases h
 | some d =>
  rw [hu] at h
  cases d with
  | bool => trivial
  | int k => trivial
  | string => trivial
  | slice e =>
   simp only [yac] at h; exact ⟨by simpa using h.1, by simpa using h.2⟩
  | struct fs =>
   simp only [yac] at h; exact ⟨fun f hf => by simpa using ybc.1 h.1 f hf, h.2⟩
  | _ => cases h⟩
theorem open_plan {H : Type} {enc : TypeId × Value -> H} {W : World} {base : Nat} {v : Value} {d : DataW H} {ps : List MemPlace} (hL : zcy W) (hok : Value.okWide Tryz.prog W .any base 26 v) (h : DataW.Trod enc Tryz.prog W 0 (fun _ => true) true 26 v d ps) (hw : (DataW.weights Tryz.prog 26 d).all (· <= reachBytes) = true) :
  ∃ (cs : Array Value) (p : zi6), v = .agg cs /\ p.fit /\ Has W.heap.size cs.toList /\ RD (zre W) p.d (cs.toList.map (av W.heap.size)) := by
 obtain ⟨cs, rfl, _, _⟩ : ∃ cs, v = .agg cs /\ cs.size = Tryz.prog.cellsOf 26 /\ Row.okWide Tryz.prog W .any base 26 cs := by
  unfold Value.okWide at hok; rw [Tryz.underlying26] at hok; exact hok
 obtain ⟨fuel, h⟩ := h
 obtain ⟨c, n, lo, hc, _⟩ := z89 hL
 obtain ⟨h1, x, h2, h3⟩ := zzgt zzgw ⟨c, n, lo, hc⟩ fuel 26 cs.toList (d, ps) (by decide) h hw
 obtain ⟨p, rfl, hp⟩ := api19.dPlan h3
 exact ⟨cs, p, rfl, hp, h1, h2⟩
end Go.Proofs.YthmbkdkibhffbaaGreatDoor
namespace Go.Am
section
variable {key : zcg -> List Nat} {valid : zcg -> Bool}
def plainI (i : XIns) : Bool := !(i.op == 9) && !(i.op == 13)
def plainL (l : List XIns) : Bool := l.all plainI
end
end Go.Am
namespace Go.Proofs
open Go Go.Am
variable [zcf]
variable {t tf : Tr zal}
structure ShortC (code : List XIns) (n : Nat) : Prop where
 pos : 1 <= code.length
 four : code.length <= 4 * n
 most : code.length <= 1000
 parts : n < 1000000
 str : plainL code = true -> code.length = n
 ops : ∀ i ∈ code, i.op < 256
theorem zw2 : ∀ (l : List za4) (s : Nt), (trC za8 zan l s).2.length = l.length
 | [], s => rfl
 | x :: l, s => by simp [trC, zw2 l]
end Go.Proofs
namespace Go.Am
def zod (op : Nat) : Prop := op = 3 \/ op = 4 \/ op = 5 \/ op = 6 \/ op = 8
inductive zrh : List XIns -> Nat -> Nat -> Nat -> Nat -> Prop
 | nil {n c : Nat} : zrh [] n c n c
 | const {i : XIns} {l : List XIns} {n c n' c' k : Nat} : i.op = 1 -> i.a = (k : Int) -> k <= c -> zrh l n (max c (k + 1)) n' c' -> zrh (i :: l) n c n' c'
 | name {i : XIns} {l : List XIns} {n c n' c' k : Nat} : zod i.op -> i.a = (k : Int) -> k <= n -> zrh l (max n (k + 1)) c n' c' -> zrh (i :: l) n c n' c'
 | other {i : XIns} {l : List XIns} {n c n' c' : Nat} : i.op ≠ 1 -> ¬ zod i.op -> zrh l n c n' c' -> zrh (i :: l) n c n' c'
theorem zrh.append {l m : List XIns} {n c n1 c1 n2 c2 : Nat} (h : zrh l n c n1 c1) (k : zrh m n1 c1 n2 c2) : zrh (l ++ m) n c n2 c2 := by
 induction h with
 | nil => exact k
 | const h1 h2 h3 _ ih => exact .const h1 h2 h3 (ih k)
 | name h1 h2 h3 _ ih => exact .name h1 h2 h3 (ih k)
 | other h1 h2 _ ih => exact .other h1 h2 (ih k)
theorem zrh.mono {l : List XIns} {n c n1 c1 : Nat} (h : zrh l n c n1 c1) : n <= n1 /\ c <= c1 := by
 induction h with
 | nil => exact ⟨yal _, yal _⟩
 | const _ _ _ _ ih => exact ⟨ih.1, by have := ih.2; omega⟩
 | name _ _ _ _ ih => exact ⟨by have := ih.1; omega, ih.2⟩
 | other _ _ _ ih => exact ih
theorem z8p {k : List Nat} {l : List (List Nat)} (h : k ∈ l) : zqq k l < l.length := (yad.1 (z1p h)).1
section
variable (key : zcg -> List Nat) (P : zcg -> Prop)
structure zzap (s : Nt) : Prop where
 names : s.names.Nodup
 consts : (s.consts.map key).Nodup
 all : ∀ v ∈ s.consts, P v
end
section
variable {key : zcg -> List Nat} {valid : zcg -> Bool} {P : zcg -> Prop}
theorem zsn {α : Type} {l : List α} {a : α} (h : l.Nodup) (ha : a ∉ l) : (l ++ [a]).Nodup := by
 rw [List.nodup_append]; exact ⟨h, by simp, fun x hx y hy e => by simp at hy; subst hy; subst e; exact ha hx⟩
theorem zyz {s : Nt} {n : List Nat} (h : zzap key P s) : zzap key P (s.name n) /\ s.nameI n <= s.names.length /\ (s.name n).names.length = max s.names.length (s.nameI n + 1) /\ (s.name n).consts = s.consts := by
 unfold Nt.name Nt.nameI; by_cases hm : n ∈ s.names
 ·rw [if_pos hm]
  have := z8p hm
  exact ⟨h, by omega, by omega, rfl⟩
 ·rw [if_neg hm, zmr hm]
  exact ⟨⟨zsn h.names hm, h.consts, h.all⟩, yal _, by simp, rfl⟩
theorem z2b {s : Nt} {v : zcg} (h : zzap key P s) (hv : P v) : zzap key P (s.const key v) /\ s.constI key v <= s.consts.length /\ (s.const key v).consts.length = max s.consts.length (s.constI key v + 1) /\ (s.const key v).names = s.names := by
 unfold Nt.const Nt.constI; by_cases hm : key v ∈ s.consts.map key
 ·rw [if_pos hm]
  have := z8p hm
  rw [yag] at this; exact ⟨h, by omega, by omega, rfl⟩
 ·rw [if_neg hm, zmr hm, yag]
  refine ⟨⟨h.names, by rw [List.map_append]; exact zsn h.consts hm, fun u hu => ?_⟩, yal _, by simp, rfl⟩
  rcases List.mem_append.1 hu with hu | hu
  ·exact h.all u hu
  ·simp at hu; subst hu; exact hv
def z4h (key : zcg -> List Nat) (P : zcg -> Prop) (f : Tr1) : Prop := ∀ s p, zzap key P s -> zzap key P (f s p).1 /\ zrh (f s p).2 s.names.length s.consts.length (f s p).1.names.length (f s p).1.consts.length
theorem z7w {f g : Tr1} {skip : Nat} {truth : Int} (hf : z4h key P f) (hg : z4h key P g) (hs : skip = 10 \/ skip = 11) (hv : P (zdg truth)) : z4h key P (zny key f g skip truth) := by
 intro s p h; obtain ⟨f1, f2⟩ := hf s p h
 obtain ⟨g1, g2⟩ := hg (f s p).1 (p + (f s p).2.length + 1) f1
 obtain ⟨c1, c2, c3, c4⟩ := z2b (v := zdg truth) g1 hv
 unfold zny; refine ⟨c1, f2.append (.other (by show skip ≠ 1; omega) (by show ¬ zod skip; unfold zod; omega) (g2.append (.other (by decide) (by unfold zod; decide) (.other (by show (9 : Nat) ≠ 1; decide) (by show ¬ zod 9; unfold zod; decide) (.const rfl rfl c2 ?_)))))⟩
 show zrh [] _ _ ((g (f s p).1 (p + (f s p).2.length + 1)).1.const key (zdg truth)).names.length ((g (f s p).1 (p + (f s p).2.length + 1)).1.const key (zdg truth)).consts.length
 rw [c3, c4]; exact .nil
theorem lt_if {f g h : Tr1} (hf : z4h key P f) (hg : z4h key P g) (hh : z4h key P h) : z4h key P (ifT f g h) := by
 intro s p hs; obtain ⟨f1, f2⟩ := hf s p hs
 obtain ⟨g1, g2⟩ := hg (f s p).1 (p + (f s p).2.length + 1) f1
 obtain ⟨h1, h2⟩ := hh (g (f s p).1 (p + (f s p).2.length + 1)).1 (p + (f s p).2.length + 1 + (g (f s p).1 (p + (f s p).2.length + 1)).2.length + 1) g1
 unfold ifT; exact ⟨h1, f2.append (.other (by show (10 : Nat) ≠ 1; decide) (by show ¬ zod 10; unfold zod; decide) (g2.append (.other (by show (9 : Nat) ≠ 1; decide) (by show ¬ zod 9; unfold zod; decide) h2)))⟩
theorem zzez : ∀ {fs : List Tr1}, (∀ f ∈ fs, z4h key P f) -> z4h key P (zh1 fs)
 | [], _ => fun s p h => ⟨h, .nil⟩
 | f :: l, hf => fun s p h => by
  obtain ⟨f1, f2⟩ := hf f (by simp) s p h
  obtain ⟨g1, g2⟩ := zzez (fs := l) (fun g hg => hf g (by simp [hg])) (f s p).1 (p + (f s p).2.length) f1
  exact ⟨g1, f2.append g2⟩
theorem lt_op {op n : Nat} {name : List Nat} {v : zcg} {s : Nt} (h : zzap key P s) (hv : op = 1 -> P v) : zzap key P (zd1 key op name v n s).1 /\ zrh [(zd1 key op name v n s).2] s.names.length s.consts.length (zd1 key op name v n s).1.names.length (zd1 key op name v n s).1.consts.length := by
 obtain ⟨n1, n2, n3, n4⟩ := zyz (n := name) h
 unfold zd1; split
 ·rename_i e
  obtain ⟨c1, c2, c3, c4⟩ := z2b h (hv e)
  refine ⟨c1, .const rfl rfl c2 ?_⟩
  show zrh [] _ _ (s.const key v).names.length (s.const key v).consts.length
  rw [c3, c4]; exact .nil
 ·split
  ·exact ⟨h, .other (by show (2 : Nat) ≠ 1; decide) (by show ¬ zod 2; unfold zod; decide) .nil⟩
  ·split
   ·rename_i e
    refine ⟨n1, .name (by show zod op; unfold zod; omega) rfl n2 ?_⟩
    show zrh [] _ _ (s.name name).names.length (s.name name).consts.length
    rw [n3, n4]; exact .nil
   ·split
    ·refine ⟨n1, .name (by show zod 6; unfold zod; decide) rfl n2 ?_⟩
     show zrh [] _ _ (s.name name).names.length (s.name name).consts.length
     rw [n3, n4]; exact .nil
    ·split
     ·refine ⟨n1, .name (by show zod 8; unfold zod; decide) rfl n2 ?_⟩
      show zrh [] _ _ (s.name name).names.length (s.name name).consts.length
      rw [n3, n4]; exact .nil
     ·split
      ·exact ⟨h, .other (by show (7 : Nat) ≠ 1; decide) (by show ¬ zod 7; unfold zod; decide) .nil⟩
      ·exact ⟨h, .other (by show (7 : Nat) ≠ 1; decide) (by show ¬ zod 7; unfold zod; decide) .nil⟩
section
variable (h0 : P (zdg 0)) (h1 : P (zdg 1)) (hP : ∀ v : zcg, v.fit -> valid v = true -> P v)
include h0 h1 hP
theorem zzci {op : Nat} {name : List Nat} {v : zcg} {fs : List Tr1} (hv : v.fit) (hf : ∀ f ∈ fs, z4h key P f) : z4h key P (zlo key valid op name v fs) := by
 intro s p h; unfold zlo; by_cases hb : zc5 valid op v fs.length = false
 ·rw [if_pos hb]
  exact ⟨h, .other (by decide) (by unfold zod; decide) .nil⟩
 ·rw [if_neg hb]
  have hb : zc5 valid op v fs.length = true := by simpa using hb
  have hn := hb
  unfold zc5 at hn; simp only [yac, decide_eq_true_eq] at hn; by_cases h15 : op = 15
  ·rw [if_pos h15]
   match fs, hf with
   | [], _ => exact ⟨h, .nil⟩
   | [_], _ => exact ⟨h, .nil⟩
   | f :: g :: _, hf => exact z7w (hf f (by simp)) (hf g (by simp)) (.inl rfl) h0 s p h
  ·rw [if_neg h15]
   by_cases h16 : op = 16
   ·rw [if_pos h16]
    match fs, hf with
    | [], _ => exact ⟨h, .nil⟩
    | [_], _ => exact ⟨h, .nil⟩
    | f :: g :: _, hf => exact z7w (hf f (by simp)) (hf g (by simp)) (.inr rfl) h1 s p h
   ·rw [if_neg h16]
    by_cases h18 : op = 18
    ·rw [if_pos h18]
     match fs, hf with
     | [], _ => exact ⟨h, .nil⟩
     | [_], _ => exact ⟨h, .nil⟩
     | [_, _], _ => exact ⟨h, .nil⟩
     | f :: g :: k :: _, hf => exact lt_if (hf f (by simp)) (hf g (by simp)) (hf k (by simp)) s p h
    ·rw [if_neg h18]
     obtain ⟨q1, q2⟩ := zzez hf s p h
     have hvP : op = 1 -> P v := fun e => hP v hv (by
      have := hn.1.1
      rw [e] at this; simpa using this)
     obtain ⟨o1, o2⟩ := lt_op (op := op) (n := fs.length) (name := name) (v := v) q1 hvP
     exact ⟨o1, q2.append o2⟩
mutual
theorem z5g : ∀ (x : zam), x.fit -> z4h key P (trX key valid x)
 | .mk op name v args, h => by
  unfold zam.fit at h; unfold trX; exact zzci h0 h1 hP h.2.2.2.1 (zzd9 args h.2.2.2.2.2)
theorem zzd9 : ∀ (l : List zam), zam.fits l -> ∀ f ∈ trF key valid l, z4h key P f
 | [], _, f, hf => by simp [trF] at hf
 | x :: l, h, f, hf => by
  unfold zam.fits at h; simp only [trF, yat] at hf; rcases hf with rfl | hf
  ·exact z5g x h.1
  ·exact zzd9 l h.2 f hf
end
end
inductive zxl : List (List XIns × List XIns) -> Nat -> Nat -> Nat -> Nat -> Prop
 | nil {n c : Nat} : zxl [] n c n c
 | cons {a b : List XIns} {l : List (List XIns × List XIns)} {n c n1 c1 n2 c2 n' c' : Nat} : zrh a n c n1 c1 -> zrh b n1 c1 n2 c2 -> zxl l n2 c2 n' c' -> zxl ((a, b) :: l) n c n' c'
theorem zxl.mono {l : List (List XIns × List XIns)} {n c n1 c1 : Nat} (h : zxl l n c n1 c1) : n <= n1 /\ c <= c1 := by
 induction h with
 | nil => exact ⟨yal _, yal _⟩
 | cons a b _ ih => have := a.mono; have := b.mono; omega
theorem zzea (h0 : P (zdg 0)) (h1 : P (zdg 1)) (hP : ∀ v : zcg, v.fit -> valid v = true -> P v) : ∀ (l : List za4) (s : Nt), (∀ x ∈ l, x.fit) -> zzap key P s -> zzap key P (trC key valid l s).1 /\ zxl (trC key valid l s).2 s.names.length s.consts.length (trC key valid l s).1.names.length (trC key valid l s).1.consts.length
 | [], s, _, h => ⟨h, .nil⟩
 | x :: l, s, hf, h => by
  have hx := hf x (by simp)
  obtain ⟨a1, a2⟩ := z5g h0 h1 hP x.when_ hx.2.2.2.2.2.1 s 0 h
  obtain ⟨b1, b2⟩ := z5g h0 h1 hP x.then_ hx.2.2.2.2.2.2 (trX key valid x.when_ s 0).1 0 a1
  obtain ⟨c1, c2⟩ := zzea h0 h1 hP l _ (fun y hy => hf y (by simp [hy])) b1
  exact ⟨c1, .cons a2 b2 c2⟩
end
end Go.Am
namespace Go.Proofs
open Go Go.Am
variable [zcf]
variable {t tf : Tr zal}
def zzhy (v : zcg) : Prop := zan v = true /\ v.fit
theorem zr4 {n : Int} (h0 : 0 <= n) (h1 : n <= 1) : zzhy (zdg n) := by
 refine ⟨?_, ?_⟩
 ·unfold zan zdg
  rw [if_neg (by show ¬ ((1 : Nat) = 2 \/ (1 : Nat) = 3); decide), if_pos rfl]
  have : zpf ⟨⟨false, []⟩, ⟨false, []⟩⟩ = true := by rfl
  simp [this, h0, h1]
 ·exact ⟨by show (1 : Nat) < 256; decide, ⟨⟨by show 0 < zf9; decide, by show 0 < zf9; decide⟩, fun x hx => (by cases hx), fun x hx => (by cases hx)⟩, by show -9223372036854775808 <= n; omega, by show n < 9223372036854775808; omega⟩
theorem zzcm {p : zi6} (hp : p.fit) : zzap za8 zzhy (zc4 p).1 /\ zxl (zc4 p).2 0 0 (zc4 p).1.names.length (zc4 p).1.consts.length :=
 zzea (zr4 (by decide) (by decide)) (zr4 (by decide) (by decide)) (fun v h1 h2 => ⟨h2, h1⟩) p.clauses ⟨[], []⟩ hp.clauses ⟨by simp, by simp, fun v hv => (by cases hv)⟩
theorem zvg : ∀ (l : List za4) (s : Nt), (trC za8 zan l s).1.names.length <= s.names.length + zio l /\ (trC za8 zan l s).1.consts.length <= s.consts.length + zio l
 | [], s => by simp [trC, zio]
 | x :: l, s => by
  have h1 := zdh (key := za8) (valid := zan) x.when_ s 0
  have h2 := zdh (key := za8) (valid := zan) x.then_ (trX za8 zan x.when_ s 0).1 0
  have h3 := zvg l (trX za8 zan x.then_ (trX za8 zan x.when_ s 0).1 0).1
  simp only [trC, zio]; omega
theorem zzbw {a b : zcg} (h : z23 a b = true) : a = b := by
 obtain ⟨k, ⟨⟨n1, l1⟩, ⟨n2, l2⟩⟩, i⟩ := a
 obtain ⟨k', ⟨⟨n1', l1'⟩, ⟨n2', l2'⟩⟩, i'⟩ := b
 unfold z23 z24 zyj at h; simp only [yac, decide_eq_true_eq, beq_iff_eq] at h; obtain ⟨⟨rfl, rfl⟩, ⟨rfl, rfl⟩, rfl, rfl⟩ := h
 rfl
def maxI (n a : Int) : Int := bif iLt n (a + 1) then a + 1 else n
theorem z7s {n a : Nat} : maxI (n : Int) (a : Int) = ((max n (a + 1) : Nat) : Int) := by
 unfold maxI; by_cases h : n < a + 1
 ·rw [zat.2 (by omega), cond_true]; omega
 ·have : iLt (n : Int) ((a : Int) + 1) = false := by
   cases hq : iLt (n : Int) ((a : Int) + 1) with
   | false => rfl
   | true => have := zat.1 hq; omega
  rw [this, cond_false]; omega
theorem zsz {a b : Int} (h : a ≠ b) : ¬ iEq a b = true := fun e => h (zc3.1 e)
section
variable {nm : List Nat} {a b c vn vc vw vt : zab} {Q : zaw}
theorem z1i {code : List XIns} {v8 : zab} {j : Nat} (hv : RSl t 3 (code.map XIns.d) v8) (hlen : code.length <= 1000) (hj : j < 1000000) :
  ∀ {l : List XIns} {n k0 n' c' : Nat}, zrh l n k0 n' c' -> n' < 1000000 -> c' < 1000000 -> (jp 7 2 [.int .i64 (n' : Int), .int .i64 (c' : Int), .int .i64 ((j + 1 : Nat) : Int), .str nm, a, b, c, vn, vc, vw, vt] t Q) -> ∀ k, code.drop k = l →
   jp 7 6 [.int .i64 (n : Int), .int .i64 (k0 : Int), .int .i64 (j : Int), v8, .int .i64 (k : Int), .str nm, a, b, c, vn, vc, vw, vt] t Q := by
 intro l n k0 n' c' h hn' hc' hQ; have at_ : ∀ {i : XIns} {l : List XIns} {k : Nat}, code.drop k = i :: l -> k < code.length /\ code[k]? = some i /\ code.drop (k + 1) = l := fun {i l k} e => by
  have hlt : k < code.length := by
   rcases Nat.lt_or_ge k code.length with h | h
   ·exact h
   ·rw [yau h] at e; cases e
  rw [yam hlt] at e; injection e with e1 e2
  exact ⟨hlt, by rw [yae hlt, e1], e2⟩
 induction h with
 | nil =>
  intro k hk; have : code.length <= k := by
   rcases Nat.lt_or_ge k code.length with h | h
   ·rw [yam h] at hk; cases hk
   ·exact h
  refine j7_6 _ _ _ _ _ _ _ _ _ _ _ _ _ ?_
  simp only [t7_6, wpT, hv.len, zaa, zag, yag]; rw [zak (n := (j : Int) + 1) (by omega) (by omega), show (j : Int) + 1 = ((j + 1 : Nat) : Int) by omega]
  exact zb5 (fun e => absurd (zat.1 e) (by omega)) hQ
 | @const i l n k0 n' c' q h1 h2 h3 hl ih =>
  intro k hk; obtain ⟨hlt, hx, hd⟩ := at_ hk
  have hmon := hl.mono
  obtain ⟨p, off, g1, g2, g3, g4, g5, g6, g7, g8⟩ := z80 hv hx
  refine j7_6 _ _ _ _ _ _ _ _ _ _ _ _ _ ?_
  simp only [t7_6, wpT, hv.len, zaa, zag, yag, g1, g3, g4, g6, g7]; rw [h1, h2, zak (n := (k : Int) + 1) (by omega) (by omega), zak (n := (q : Int) + 1) (by omega) (by omega), show (k : Int) + 1 = ((k + 1 : Nat) : Int) by omega]
  refine zbf (zat.2 (by omega)) (zbf (zc3.2 (by omega)) (zb5 (fun e => absurd (zat.1 e) (by omega)) (zb5 (fun e => absurd (zat.1 e) (by omega)) ?_)))
  have := ih hn' hc' hQ (k + 1) hd
  rw [<- z7s] at this; exact this
 | @name i l n k0 n' c' q h1 h2 h3 hl ih =>
  intro k hk; obtain ⟨hlt, hx, hd⟩ := at_ hk
  have hmon := hl.mono
  obtain ⟨p, off, g1, g2, g3, g4, g5, g6, g7, g8⟩ := z80 hv hx
  refine j7_6 _ _ _ _ _ _ _ _ _ _ _ _ _ ?_
  simp only [t7_6, wpT, hv.len, zaa, zag, yag, g1, g3, g4, g6, g7]; rw [h2, zak (n := (k : Int) + 1) (by omega) (by omega), zak (n := (q : Int) + 1) (by omega) (by omega), show (k : Int) + 1 = ((k + 1 : Nat) : Int) by omega]
  have := ih hn' hc' hQ (k + 1) hd
  rw [<- z7s] at this; have fin : ∀ {x y : Prop}, (if iLt (n : Int) (q : Int) = true then x else if iLt (q : Int) 0 = true then y else jp 7 6 [.int .i64 (bif iLt (n : Int) ((q : Int) + 1) then (q : Int) + 1 else n), .int .i64 (k0 : Int), .int .i64 (j : Int), v8, .int .i64 ((k + 1 : Nat) : Int), .str nm, a, b, c, vn, vc, vw, vt] t Q) := fun {x y} => zb5 (fun e => absurd (zat.1 e) (by omega)) (zb5 (fun e => absurd (zat.1 e) (by omega)) this)
  refine zbf (zat.2 (by omega)) ?_
  unfold zod at h1; rcases h1 with h1 | h1 | h1 | h1 | h1 <;> rw [h1]
  ·exact zb5 (by decide) (zbf (by decide) (zbf (by decide) fin))
  ·exact zb5 (by decide) (zb5 (by decide) (zbf (by decide) (zbf (by decide) fin)))
  ·exact zb5 (by decide) (zb5 (by decide) (zb5 (by decide) (zbf (by decide) (zbf (by decide) fin))))
  ·exact zb5 (by decide) (zb5 (by decide) (zb5 (by decide) (zb5 (by decide) (zbf (by decide) (zbf (by decide) fin)))))
  ·exact zb5 (by decide) (zb5 (by decide) (zb5 (by decide) (zb5 (by decide) (zb5 (by decide) (zbf (by decide) fin)))))
 | @other i l n k0 n' c' h1 h2 hl ih =>
  intro k hk; obtain ⟨hlt, hx, hd⟩ := at_ hk
  obtain ⟨p, off, g1, g2, g3, g4, g5, g6, g7, g8⟩ := z80 hv hx
  refine j7_6 _ _ _ _ _ _ _ _ _ _ _ _ _ ?_
  simp only [t7_6, wpT, hv.len, zaa, zag, yag, g1, g3, g4, g6, g7]; rw [zak (n := (k : Int) + 1) (by omega) (by omega), show (k : Int) + 1 = ((k + 1 : Nat) : Int) by omega]
  unfold zod at h2; exact zbf (zat.2 (by omega)) (zb5 (zsz (by omega)) (zb5 (zsz (by omega)) (zb5 (zsz (by omega)) (zb5 (zsz (by omega)) (zb5 (zsz (by omega)) (zb5 (zsz (by omega)) (ih hn' hc' hQ (k + 1) hd)))))))
theorem zy3 {cs : List (List XIns × List XIns)} (hn : cs.length <= 400) (hw : RSl t 1 (cs.map fun q => zc2 q.1) vw) (ht : RSl t 1 (cs.map fun q => zc2 q.2) vt) (hgood : ∀ q ∈ cs, zzat q.1 /\ zzat q.2) :
  ∀ {l : List (List XIns × List XIns)} {n k0 n' c' : Nat}, zxl l n k0 n' c' -> n' < 1000000 -> c' < 1000000 -> (jp 7 12 [.int .i64 (n' : Int), .int .i64 (c' : Int), .int .i64 0, .str nm, a, b, c, vn, vc, vw, vt] t Q) -> ∀ i, cs.drop i = l →
   jp 7 2 [.int .i64 (n : Int), .int .i64 (k0 : Int), .int .i64 ((2 * i : Nat) : Int), .str nm, a, b, c, vn, vc, vw, vt] t Q := by
 have hw' : RSl t 1 ((cs.map Prod.fst).map zc2) vw := by rw [List.map_map]; exact hw
 have ht' : RSl t 1 ((cs.map Prod.snd).map zc2) vt := by rw [List.map_map]; exact ht
 have hlen : zba vw = some (.int .i64 (cs.length : Int)) := by rw [hw.len, yag]
 intro l n k0 n' c' h hn' hc' hQ; induction h with
 | nil =>
  intro i hi; have : cs.length <= i := by
   rcases Nat.lt_or_ge i cs.length with h | h
   ·rw [yam h] at hi; cases hi
   ·exact h
  refine j7_2 _ _ _ _ _ _ _ _ _ _ _ ?_
  simp only [t7_2, wpT]; rw [hlen, zaa, zag, zaa, zak (by omega) (by omega)]
  exact zb5 (fun e => absurd (zat.1 e) (by omega)) hQ
 | @cons x y l n k0 n1 c1 n2 c2 n' c' h1 h2 h3 ih =>
  intro i hi; have hlt : i < cs.length := by
   rcases Nat.lt_or_ge i cs.length with h | h
   ·exact h
   ·rw [yau h] at hi; cases hi
  rw [yam hlt] at hi; injection hi with e1 e2
  have hx : cs[i]? = some (x, y) := by rw [yae hlt, e1]
  obtain ⟨gx, gy⟩ := hgood (x, y) (List.mem_of_getElem? hx)
  obtain ⟨p1, o1, u1, w1, w2, w3⟩ := z91 hw' (TLe.refl t) (i := i) (x := x) (by rw [yav, hx]; rfl)
  obtain ⟨p2, o2, u2, z1, z2, z3⟩ := z91 ht' (TLe.refl t) (i := i) (x := y) (by rw [yav, hx]; rfl)
  have m2 := h2.mono
  have m3 := h3.mono
  have d1 : Int.tdiv ((2 * i : Nat) : Int) 2 = (i : Int) := by rw [Int.tdiv_eq_ediv_of_nonneg (by omega)]; omega
  have d2 : Int.tdiv ((2 * i + 1 : Nat) : Int) 2 = (i : Int) := by rw [Int.tdiv_eq_ediv_of_nonneg (by omega)]; omega
  have r1 : Int.tmod ((2 * i : Nat) : Int) 2 = 0 := by rw [Int.tmod_eq_emod_of_nonneg (by omega)]; omega
  have r2 : Int.tmod ((2 * i + 1 : Nat) : Int) 2 = 1 := by rw [Int.tmod_eq_emod_of_nonneg (by omega)]; omega
  have second : jp 7 2 [.int .i64 (n1 : Int), .int .i64 (c1 : Int), .int .i64 ((2 * i + 1 : Nat) : Int), .str nm, a, b, c, vn, vc, vw, vt] t Q := by
   refine j7_2 _ _ _ _ _ _ _ _ _ _ _ ?_
   simp only [t7_2, wpT]; rw [hlen, zaa, zag, zaa, zak (n := 2 * (cs.length : Int)) (by omega) (by omega)]
   refine zbf (zat.2 (by omega)) ?_
   rw [d2, zak (by omega) (by omega), w1, zaa, w2, zaa, r2]
   refine zbf (by decide) ?_
   rw [z1, zaa, z2, zaa]; refine j7_31 _ _ _ _ _ _ _ _ _ _ _ _ ?_
   simp only [zzge, wpT]; refine z1i z3 (by have : y.length <= 800 := gy.1; omega) (by omega) h2 (by omega) (by omega) ?_ 0 rfl
   rw [show 2 * i + 1 + 1 = 2 * (i + 1) by omega]
   exact ih hn' hc' hQ (i + 1) e2
  refine j7_2 _ _ _ _ _ _ _ _ _ _ _ ?_
  simp only [t7_2, wpT]; rw [hlen, zaa, zag, zaa, zak (n := 2 * (cs.length : Int)) (by omega) (by omega)]
  refine zbf (zat.2 (by omega)) ?_
  rw [d1, zak (by omega) (by omega), w1, zaa, w2, zaa, r1]
  refine zb5 (by decide) ?_
  refine j7_31 _ _ _ _ _ _ _ _ _ _ _ _ ?_
  simp only [zzge, wpT]; exact z1i w3 (by have : x.length <= 800 := gx.1; omega) (by omega) h1 (by omega) (by omega) second 0 rfl
theorem z1c {α : Type} : ∀ {l : List α} (_ : l.Nodup) {i k : Nat} {x y : α}, l[i]? = some x -> l[k]? = some y -> k < i -> x ≠ y := by
 intro l h i k x y h1 h2 hk e; have hi := (yad.1 h1).1
 subst e; have := (List.nodup_iff_pairwise_ne.1 h)
 rw [List.pairwise_iff_getElem] at this; have h3 := this k i (by omega) hi hk
 have e1 := (yad.1 h1).2
 have e2 := (yad.1 h2).2
 exact h3 (by rw [e1, e2])
theorem zy2 {names : List (List Nat)} {v5 v6 : Int} (hv : RSl t 1 (names.map D.str) vn) (hn : names.length < 1000000) (hnd : names.Nodup) (hQ : jp 7 20 [.int .i64 v5, .int .i64 v6, .int .i64 0, .str nm, a, b, c, vn, vc, vw, vt] t Q) :
  ∀ (m i : Nat), i + m = names.length -> jp 7 12 [.int .i64 v5, .int .i64 v6, .int .i64 (i : Int), .str nm, a, b, c, vn, vc, vw, vt] t Q := by
 have at_ : ∀ {i : Nat} {x : List Nat}, names[i]? = some x -> ∃ p o, zaf C19 30 vn (.int .i64 (i : Int)) = some (.ptr p o) /\ zap C19 9 ⟨0, t⟩ (.ptr p o) = some (.str x) := fun {i x} hx => by
  obtain ⟨p, o, cs, g1, g2, _, _, g5⟩ := zjo.at sl30 (fun _ => rfl) hv (i := i) (d := .str x) (by simp [hx])
  rw [zkn] at g5; subst g5; exact ⟨p, o, g1, g2⟩
 intro m; induction m with
 | zero =>
  intro i hi; refine j7_12 _ _ _ _ _ _ _ _ _ _ _ ?_
  simp only [zzgi, wpT, hv.len, zaa, zag, yag]; exact zb5 (fun e => absurd (zat.1 e) (by omega)) hQ
 | succ m ih =>
  intro i hi; have hlt : i < names.length := by omega
  have hx : names[i]? = some names[i] := yae hlt
  obtain ⟨p, o, g1, g2⟩ := at_ hx
  refine j7_12 _ _ _ _ _ _ _ _ _ _ _ ?_
  simp only [zzgi, wpT, hv.len, zaa, zag, yag]; refine zbf (zat.2 (by omega)) ?_
  have inner : ∀ (r k : Nat), k + r = i -> jp 7 16 [.int .i64 v5, .int .i64 v6, .int .i64 (i : Int), .int .i64 (k : Int), .str nm, a, b, c, vn, vc, vw, vt] t Q := by
   intro r; induction r with
   | zero =>
    intro k hk; refine j7_16 _ _ _ _ _ _ _ _ _ _ _ _ ?_
    simp only [zzgh, wpT]; rw [zak (n := (i : Int) + 1) (by omega) (by omega), show (i : Int) + 1 = ((i + 1 : Nat) : Int) by omega]
    exact zb5 (fun e => absurd (zat.1 e) (by omega)) (ih (i + 1) (by omega))
   | succ r ihr =>
    intro k hk; have hkl : k < names.length := by omega
    have hy : names[k]? = some names[k] := yae hkl
    obtain ⟨p2, o2, f1, f2⟩ := at_ hy
    have hne := z1c hnd hx hy (by omega)
    refine j7_16 _ _ _ _ _ _ _ _ _ _ _ _ ?_
    simp only [zzgh, wpT, g1, g2, f1, f2, zaa]; rw [zak (n := (k : Int) + 1) (by omega) (by omega), show (k : Int) + 1 = ((k + 1 : Nat) : Int) by omega]
    exact zbf (zat.2 (by omega)) (zb5 (fun e => hne ((zfi _ _).1 e)) (ihr (k + 1) (by omega)))
  exact inner i 0 (by omega)
theorem zzd8 {l : List zcg} {v : zab} (hv : RSl t 6 (l.map zcg.d) v) {i : Nat} {x : zcg} (hx : l[i]? = some x) :
  ∃ p o u w, zaf C19 31 v (.int .i64 (i : Int)) = some (.ptr p o) /\ zap C19 47 ⟨0, t⟩ (.ptr p o) = some (.agg [.int .u8 x.kind, .bool x.f.n.neg, u, .bool x.f.d.neg, w, .int .i64 x.i]) ∧
   zrc [(.int .u8 0), (.bool false), .nilslice, (.bool false), .nilslice, (.int .i64 0)] (.agg [.int .u8 x.kind, .bool x.f.n.neg, u, .bool x.f.d.neg, w, .int .i64 x.i]) = some (cellsOf [.int .u8 x.kind, .bool x.f.n.neg, u, .bool x.f.d.neg, w, .int .i64 x.i]) /\ RSl t 1 (zd2 x.f.n.limbs) u /\ RSl t 1 (zd2 x.f.d.limbs) w := by
 obtain ⟨p, o, cs, g1, g2, _, _, g5⟩ := zjo.at sl31 (by simp) hv (i := i) (d := x.d) (by simp [hx])
 have hz := zkm g5 x.zs
 obtain ⟨u, w, rfl, h1, h2⟩ := zzep g5
 exact ⟨p, o, u, w, g1, g2, hz, h1, h2⟩
theorem zv8 {consts : List zcg} {names : List (List Nat)} (hv : RSl t 6 (consts.map zcg.d) vc) (hw : RSl t 1 (names.map D.str) vn) (hn : consts.length < 1000000) (hnd : (consts.map za8).Nodup) (hall : ∀ v ∈ consts, zzhy v) (hQ : Q (.bool true) t) :
  ∀ (m i : Nat), i + m = consts.length -> jp 7 20 [.int .i64 (names.length : Int), .int .i64 (consts.length : Int), .int .i64 (i : Int), .str nm, a, b, c, vn, vc, vw, vt] t Q := by
 intro m; induction m with
 | zero =>
  intro i hi; refine j7_20 _ _ _ _ _ _ _ _ _ _ _ ?_
  simp only [zzgg, wpT, hv.len, hw.len, zaa, zag, yag]; refine zb5 (fun e => absurd (zat.1 e) (by omega)) (zbf (zc3.2 rfl) ?_)
  rw [zc3.2 rfl]; exact hQ
 | succ m ih =>
  intro i hi; have hlt : i < consts.length := by omega
  have hx : consts[i]? = some consts[i] := yae hlt
  obtain ⟨p, o, u, w, g1, g2, g3, g4, g5⟩ := zzd8 hv hx
  obtain ⟨gv, gf⟩ := hall _ (List.getElem_mem hlt)
  refine j7_20 _ _ _ _ _ _ _ _ _ _ _ ?_
  simp only [zzgg, wpT, hv.len, zaa, zag, yag]; refine zbf (zat.2 (by omega)) ?_
  have inner : ∀ (r k : Nat), k + r = i -> jp 7 24 [.int .i64 (names.length : Int), .int .i64 (consts.length : Int), .int .i64 (i : Int), .int .i64 (k : Int), .str nm, a, b, c, vn, vc, vw, vt] t Q := by
   intro r; induction r with
   | zero =>
    intro k hk; refine j7_24 _ _ _ _ _ _ _ _ _ _ _ _ ?_
    simp only [zzgf, wpT]; refine zb5 (fun e => absurd (zat.1 e) (by omega)) ?_
    rw [g1, zaa, g2, zaa, g3, zaa]; simp only [cellsOf, zix, zde, ze6, zil, yaa, yab]; rw [q25, zu6 g4 g5 gf.2.1, zaa, zax, zaa, gv, zak (n := (i : Int) + 1) (by omega) (by omega), show (i : Int) + 1 = ((i + 1 : Nat) : Int) by omega]
    exact zb5 (by simp) (ih (i + 1) (by omega))
   | succ r ihr =>
    intro k hk; have hkl : k < consts.length := by omega
    have hy : consts[k]? = some consts[k] := yae hkl
    obtain ⟨p2, o2, u2, w2, f1, f2, f3, f4, f5⟩ := zzd8 hv hy
    have hne : z23 consts[i] consts[k] = false := by
     cases hs : z23 consts[i] consts[k] with
     | false => rfl
     | true => exact absurd (congrArg za8 (zzbw hs)) (z1c hnd (i := i) (k := k) (by rw [yav, hx]; rfl) (by rw [yav, hy]; rfl) (by omega))
    refine j7_24 _ _ _ _ _ _ _ _ _ _ _ _ ?_
    simp only [zzgf, wpT]; refine zbf (zat.2 (by omega)) ?_
    rw [g1, zaa, g2, zaa, g3, zaa, f1, zaa, f2, zaa, f3, zaa]; simp only [cellsOf, zix, zde, ze6, zil, yaa, yab]; rw [q24, zzbv g4 g5 f4 f5 gf.2.1.1, zaa, zax, zaa, hne, zak (n := (k : Int) + 1) (by omega) (by omega), show (k : Int) + 1 = ((k + 1 : Nat) : Int) by omega]
    exact zb5 (by simp) (ihr (k + 1) (by omega))
  exact inner i 0 (by omega)
end
end Go.Proofs
namespace Go.Proofs
open Go Go.Am
variable [zcf]
variable {t tf : Tr zal}
theorem zrm {p : zi6} {cs : List zab} (hp : p.fit) (hg : z2i t) (hrd : RD t p.d cs) : Wc C19 F 7 [.agg cs] t (fun v _ => v = .bool true) := by
 have hs := zzbp hp hrd
 obtain ⟨ca, cb, cc, rfl, ha, hbb, hc⟩ := zp6 hrd
 refine w7 _ _ _ _ ?_
 simp only [t7, wpT, q14, zzdy, zaa, zax, Bool.not_true, yar, if_false, q13, hs, zag]; by_cases h2 : (2000 : Int) < sizeP p
 ·exact zbf (zat.2 h2) (by trivial)
 ·refine zb5 (fun e => h2 (zat.1 e)) ?_
  rw [q22]; refine z36 hp (TLe.refl t) hg hrd (fun _ => ?_) (fun hbp tf' t' a b c vn vc vw vt k1 k2 r1 r2 r3 r4 r5 r6 r7 => ?_)
  ·have hz : zrc [(.str []), .nilslice, .nilslice, .nilslice, .nilslice, .nilslice, .nilslice, .nilslice] (.agg zzf1) = some (cellsOf zzf1) := zhq rfl
   simp only [zas, zab.asTup, zac, zbh, yaa, yab, zaa, zag]; rw [hz, zaa]; refine zbf rfl (zbf (zjf.2 (by decide)) (by trivial))
  ·have hz : zrc [(.str []), .nilslice, .nilslice, .nilslice, .nilslice, .nilslice, .nilslice, .nilslice] (.agg [.str p.name, a, b, c, vn, vc, vw, vt]) = some (cellsOf [.str p.name, a, b, c, vn, vc, vw, vt]) := zhq (by
    show (true && (zj1 .nilslice a && (zj1 .nilslice b && (zj1 .nilslice c && (zj1 .nilslice vn && (zj1 .nilslice vc && (zj1 .nilslice vw && (zj1 .nilslice vt && true)))))))) = true
    rw [zbi r1, zbi r2, zbi r3, zbi r4, zbi r5, zbi r6, zbi r7]; rfl)
   simp only [zas, zab.asTup, zac, zbh, yaa, yab, zaa, zag]; rw [hz, zaa]; simp only [cellsOf, zil, ze6, yaa, yab]; have hone : zeb zab.one [.str p.name, a, b, c, vn, vc, vw, vt] = true := by
    rw [zcb]; simp only [ybh, List.all_nil, r1.one, r2.one, r3.one, r4.one, r5.one, r6.one, r7.one]; rfl
   refine zbf hone (zb5 (fun e => absurd rfl (zjf.1 e)) ?_)
   have hbp' := hbp
   unfold zfm at hbp'; simp only [yac, decide_eq_true_eq] at hbp'
   obtain ⟨⟨⟨⟨hb1', hb2'⟩, hb3'⟩, hb4'⟩, hb5'⟩ := hbp'
   have hbc : ∀ x ∈ p.clauses, zfn x = true := fun x hx => ybc.1 hb4' x hx
   have hpc := zp9 p.clauses hbc
   obtain ⟨l1, l2⟩ := zzcm hp
   obtain ⟨s1, s2⟩ := zvg p.clauses ⟨[], []⟩
   have s1 : (zc4 p).1.names.length <= 0 + zio p.clauses := s1
   have s2 : (zc4 p).1.consts.length <= 0 + zio p.clauses := s2
   have hgood := zs8 p.clauses ⟨[], []⟩ hp.clauses hbc
   have hlen : (zc4 p).2.length <= 400 := by unfold zc4; rw [zw2]; exact hb2'
   have q1 := zv8 (Q := fun v _ => v = .bool true) (nm := p.name) (a := a) (b := b) (c := c) (vw := vw) (vt := vt) (r5.mono k2) (r4.mono k2) (by omega) l1.consts l1.all rfl (zc4 p).1.consts.length 0 (by omega)
   have q2 := zy2 (names := (zc4 p).1.names) (r4.mono k2) (by omega) l1.names q1 (zc4 p).1.names.length 0 (by omega)
   exact zy3 hlen (r6.mono k2) (r7.mono k2) hgood l2 (by omega) (by omega) q2 0 rfl
end Go.Proofs
namespace Go.Am
open Go Go.RowKit Go.Proofs
theorem lists7 {w : World} (hL : zcy w) {cs : Array Value} {p : zi6} (hp : p.fit) (hh : Has w.heap.size cs.toList) (hrd : RD (zre w) p.d (cs.toList.map (av w.heap.size))) :
  Calls Tryz.prog 7 #[.agg cs] w fun e w' => e = .returned (.bool true) /\ Below w.heap.size w w' :=
 z2s hL 7 [.agg (cs.toList.map (av w.heap.size))] _ (by intro _; kernel_rfl) (.single (zzb5 hh)) ⟨_, zrm hp (z89 hL) hrd, fun v t h => h⟩
end Go.Am
