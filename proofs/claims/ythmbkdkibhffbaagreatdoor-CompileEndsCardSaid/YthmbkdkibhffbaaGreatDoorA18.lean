/- Compile, whole. -/
import Derived.Carry
import Derived.ChangeArms
import Derived.HandedShaped
import Derived.JoinedOf
import Derived.LaidMore
import Derived.OpenShut
import Derived.ProofKit
import Derived.Stop.Joined
import Derived.Test.YthmbkdkibhffbaaGreatDoorRows
import GoSem.ClaimJoined
import Derived.Test.YthmbkdkibhffbaaGreatDoorA17
set_option linter.all false
noncomputable section
set_option maxRecDepth 100000
namespace Go.Proofs
open Go Go.Am
variable [zcm]
variable {t tf : Tr zal}
theorem zvu : ∀ (l : List za4), (∀ x ∈ l, zf3 x = true) -> zp7 l <= 400 * l.length
 | [], _ => by simp [zp7]
 | x :: l, h => by
  have hx := h x (by simp)
  unfold zf3 at hx; rw [yac] at hx; have p1 := zg9 hx.1
  have p2 := zg9 hx.2
  have := zvu l fun y hy => h y (by simp [hy])
  unfold zp7; rw [yao]; omega
theorem z05 (h : TLe tf t) : Objs C19.base tf t [] := ⟨h, by simp, fun o ho => (by cases ho), fun k hk => (by simp at hk)⟩
def zeo (p : zjm) : Nt × List (List XIns × List XIns) := trC zba zap p.clauses ⟨[], []⟩
theorem z3v {p : zjm} {cs : List zab} {Q : zaw} (hp : p.fit) (ht : TLe tf t) (hg : z18 tf) (hrd : RD tf p.d cs)
  (h0 : zfk p = false -> Q (.tup [.agg zzfj, .int .i64 2]) t)
  (h1 : zfk p = true -> ∀ tf' t' a b c vn vc vw vt, TLe tf tf' -> TLe tf' t' -> RSl tf' 3 (p.defs.map zxk.d) a -> RSl tf' 3 (p.tables.map zb9.d) b -> RSl tf' 24 ((p.clauses.map zm1).map za4.d) c -> RSl tf' 1 ((zeo p).1.names.map D.str) vn -> RSl tf' 6 ((zeo p).1.consts.map zc8.d) vc →
   RSl tf' 1 ((zeo p).2.map fun q => zc3 q.1) vw -> RSl tf' 1 ((zeo p).2.map fun q => zc3 q.2) vt -> Q (.tup [.agg [.str p.name, a, b, c, vn, vc, vw, vt], .int .i64 0]) t') : Wc C19 F 22 [.agg cs] t Q := by
 have hbd := z30 hp (RD.mono ht _ _ hrd)
 obtain ⟨ca, cb, cc, rfl, ha, hb, hc⟩ := zp4 hrd
 refine w22 _ _ _ _ ?_
 simp only [t22, wpT, q33, hbd, zaa, zay]
 cases hbp : zfk p with
 | false =>
  simp only [Bool.not_false, if_true]; exact h0 hbp
 | true =>
  have h1 := h1 hbp
  simp only [Bool.not_true, yar, if_false]; rw [q51]; refine zzh0 hp hbp hrd (z05 ht) fun tf1 t1 a b c k1 k2 k3 k4 k5 => ?_
  have hz : zoy [(.str []), .nilslice, .nilslice, .nilslice] (.agg [.str p.name, a, b, c]) = some (cellsOf [.str p.name, a, b, c]) := zfl (by
   show (true && (zjy .nilslice a && (zjy .nilslice b && (zjy .nilslice c && true)))) = true
   rw [zbi k3, zbi k4, zbi k5]; rfl)
  rw [hz, zaa]; simp only [cellsOf, zju, zfn, yaa, yab, if_true]; intro m1 hm1 hb1; have e1 : zkp ⟨m1, t1⟩ = some (.map m1, ⟨m1 + 1, t1.set m1 (.map [])⟩) := rfl
  have o1 : Objs C19.base tf1 (t1.set m1 (.map [])) ([] ++ zfw m1 (zaz 0 []) :: []) :=
   Objs.add (A := []) (B := []) (o' := zfw m1 (zaz 0 [])) k2 (fun k hk => (zc9 hm1 _).2 k (fun e => hk (by simp [zfw, e]))) (fun k hk => by
    have : k = m1 := by simpa [zfw] using hk
    subst this; exact ⟨hm1, hb1⟩) (by show (t1.set m1 _).get m1 = _; rw [Tr.get_set, if_pos rfl]; rfl) (by simp [zfw]) (k2.tle.trans (zc9 hm1 _).1)
  rw [e1, zaa]; intro m2 hm2 hb2; have e2 : zkp ⟨m2, t1.set m1 (.map [])⟩ = some (.map m2, ⟨m2 + 1, (t1.set m1 (.map [])).set m2 (.map [])⟩) := rfl
  have o2 : Objs C19.base tf1 ((t1.set m1 (.map [])).set m2 (.map [])) ([zfw m1 (zaz 0 [])] ++ zfw m2 (zaz 0 []) :: []) :=
   Objs.add (A := [zfw m1 (zaz 0 [])]) (B := []) (o' := zfw m2 (zaz 0 [])) o1 (fun k hk => (zc9 hm2 _).2 k (fun e => hk (by simp [zfw, e]))) (fun k hk => by
    have : k = m2 := by simpa [zfw] using hk
    subst this; exact ⟨hm2, hb2⟩) (by show ((t1.set m1 _).set m2 _).get m2 = _; rw [Tr.get_set, if_pos rfl]; rfl) (by simp [zfw]) (o1.tle.trans (zc9 hm2 _).1)
  rw [e2, zaa]; have hone2 : zd7 zab.one [.map m1, .map m2] = true := rfl
  rw [if_pos hone2]; intro nb hnb hbb; obtain ⟨t3, f1, f2, f3, f4⟩ := z9x (v := .agg [.str p.name, a, b, c, .nilslice, .nilslice, .nilslice, .nilslice, .map m1, .map m2, .nilslice]) hnb
  have o3 : Objs C19.base tf1 t3 ([] ++ zfo nb none [.str p.name, a, b, c, .nilslice, .nilslice, .nilslice, .nilslice, .map m1, .map m2, .nilslice] :: [zfw m1 (zaz 0 []), zfw m2 (zaz 0 [])]) :=
   Objs.add (A := []) (o' := zfo nb none [.str p.name, a, b, c, .nilslice, .nilslice, .nilslice, .nilslice, .map m1, .map m2, .nilslice]) o2 (fun k hk => f4 k (fun e => hk (by simp [zfo, e]))) (fun k hk => by
    have : k = nb := by simpa [zfo] using hk
    subst this; exact ⟨hnb, hbb⟩) f2 (by simp [zfo]) (o2.tle.trans f3)
  have addL : ∀ {A : List Thg} {sz : Nat}, Objs C19.base tf1 t3 A -> Objs C19.base tf1 t3 (A ++ [zaq C19.base sz [] .nilslice]) := fun {A sz} h => by
   have h' : Objs C19.base tf1 t3 (A ++ []) := by rw [ybe]; exact h
   exact Objs.add (o' := zaq C19.base sz ([] : List D) .nilslice) h' (fun _ _ => rfl) (fun k hk => by simp [zaq, zik] at hk) (.inl ⟨rfl, rfl⟩) (by simp [zaq, zik]) h'.tle
  have o4 : TW tf1 t3 ⟨nb, [.str p.name, a, b, c], .nilslice, .nilslice, .nilslice, .nilslice, .nilslice, m1, m2⟩ ⟨[], [], [], [], []⟩ := ⟨rfl, addL (sz := 1) (addL (sz := 1) (addL (sz := 6) (addL (sz := 1) o3)))⟩
  have hbp' := hbp
  unfold zfk at hbp'; simp only [yac, decide_eq_true_eq] at hbp'
  obtain ⟨⟨⟨⟨hb1', hb2'⟩, hb3'⟩, hb4'⟩, hb5'⟩ := hbp'
  have hbc : ∀ x ∈ p.clauses, zf3 x = true := fun x hx => ybc.1 hb4' x hx
  have hpc := zvu p.clauses hbc
  rw [f1, zaa, hc.len, zaa, yag, zag, zaa]; refine z9q hb2' hp.clauses hbc p.clauses 0 t3 tf1 ⟨nb, [.str p.name, a, b, c], .nilslice, .nilslice, .nilslice, .nilslice, .nilslice, m1, m2⟩ ⟨[], [], [], [], []⟩ (List.drop_zero) o4 (hg.mono k1) (hc.mono k1) (by simp; omega) (by simp; omega) (by simp; omega) (by simp; omega) (fun tf5 t5 r5 n1 n2 n3 n4 => ?_) ⟨_, _, _, _, rfl, k3.one, k4.one, k5.one, zbi k3, zbi k4, zbi k5⟩
  have n3' : r5.pl = [.str p.name, a, b, c] := n3
  rw [n3']; have q4 : Objs C19.base tf5 t5 ([zfo r5.b none r5.cells, zfw r5.m1 (zaz 0 (zeo p).1.names), zfw r5.m2 (zaz 0 ((zeo p).1.consts.map zba))] ++ zaq C19.base 1 ((zeo p).1.names.map D.str) r5.vn :: [zaq C19.base 6 ((zeo p).1.consts.map zc8.d) r5.vc, zaq C19.base 1 ((zeo p).2.map fun q => zc3 q.1) r5.vw, zaq C19.base 1 ((zeo p).2.map fun q => zc3 q.2) r5.vt]) := n4.os
  obtain ⟨tf6, x1, x2, x3⟩ := Objs.freezeL q4
  obtain ⟨tf7, y1, y2, y3⟩ := Objs.freezeL (A := [zfo r5.b none r5.cells, zfw r5.m1 (zaz 0 (zeo p).1.names), zfw r5.m2 (zaz 0 ((zeo p).1.consts.map zba))]) (B := [zaq C19.base 1 ((zeo p).2.map fun q => zc3 q.1) r5.vw, zaq C19.base 1 ((zeo p).2.map fun q => zc3 q.2) r5.vt]) x2
  obtain ⟨tf8, z1, z2, z3⟩ := Objs.freezeL (A := [zfo r5.b none r5.cells, zfw r5.m1 (zaz 0 (zeo p).1.names), zfw r5.m2 (zaz 0 ((zeo p).1.consts.map zba))]) (B := [zaq C19.base 1 ((zeo p).2.map fun q => zc3 q.2) r5.vt]) y2
  obtain ⟨tf9, w1, w2, w3⟩ := Objs.freezeL (A := [zfo r5.b none r5.cells, zfw r5.m1 (zaz 0 (zeo p).1.names), zfw r5.m2 (zaz 0 ((zeo p).1.consts.map zba))]) (B := []) z2
  have T : TLe tf1 tf9 := n1.trans (x1.trans (y1.trans (z1.trans w1)))
  exact h1 tf9 t5 a b c r5.vn r5.vc r5.vw r5.vt (k1.trans T) w2.tle (k3.mono T) (k4.mono T) (k5.mono T) (x3.mono (y1.trans (z1.trans w1))) (y3.mono (z1.trans w1)) (z3.mono w1) w3
end Go.Proofs
namespace Go.Am
def zzds (i : XIns) : Prop := i.op < 255 /\ 0 <= zcb i /\ zcb i <= 3
section
variable {key : zc8 -> List Nat} {valid : zc8 -> Bool}
def zn2 (f : Tr1) : Prop := ∀ s p, ∀ i ∈ (f s p).2, zzds i
theorem zzhe {op n : Nat} {name : List Nat} {v : zc8} {s : Nt} (h : zdt valid op v n = true) (h15 : op ≠ 15) (h16 : op ≠ 16) (h18 : op ≠ 18) (hop : op < 256) : zzds (zev key op name v n s).2 := by
 obtain ⟨h1, h2⟩ := z6y (key := key) (name := name) (s := s) h h15 h16 h18 hop
 refine ⟨by omega, by omega, ?_⟩
 rw [h1]; unfold zdt at h; simp only [yac, decide_eq_true_eq] at h; have h3 := h.2
 have h4 := h.1.2
 unfold zq8 at h3 h4; repeat' split at h3
 all_goals simp_all
 all_goals omega
theorem zwq {f g : Tr1} {skip : Nat} {truth : Int} (hf : zn2 f) (hg : zn2 g) (hs : skip = 10 \/ skip = 11) : zn2 (zqx key f g skip truth) := by
 intro s p i hi; simp only [zqx, List.mem_append, yat, List.not_mem_nil, or_false] at hi; rcases hi with h | rfl | h | rfl | rfl | rfl
 ·exact hf _ _ i h
 ·rcases hs with e | e <;> subst e <;> exact ⟨by simp, by simp [zcb], by simp [zcb]⟩
 ·exact hg _ _ i h
 ·exact ⟨by simp, by simp [zcb], by simp [zcb]⟩
 ·exact ⟨by simp, by simp [zcb], by simp [zcb]⟩
 ·exact ⟨by simp, by simp [zcb], by simp [zcb]⟩
theorem zzhf {f g h : Tr1} (hf : zn2 f) (hg : zn2 g) (hh : zn2 h) : zn2 (ifT f g h) := by
 intro s p i hi; simp only [ifT, List.mem_append, yat] at hi; rcases hi with h' | rfl | h' | rfl | h'
 ·exact hf _ _ i h'
 ·exact ⟨by simp, by simp [zcb], by simp [zcb]⟩
 ·exact hg _ _ i h'
 ·exact ⟨by simp, by simp [zcb], by simp [zcb]⟩
 ·exact hh _ _ i h'
theorem z1s : ∀ {fs : List Tr1}, (∀ f ∈ fs, zn2 f) -> zn2 (zib fs)
 | [], _ => by intro s p i hi; simp [zib] at hi
 | f :: l, h => by
  intro s p i hi; simp only [zib, List.mem_append] at hi; rcases hi with h' | h'
  ·exact h f (by simp) _ _ i h'
  ·exact z1s (fun g hg => h g (by simp [hg])) _ _ i h'
theorem z3n {op : Nat} {name : List Nat} {v : zc8} {fs : List Tr1} (hop : op < 256) (hf : ∀ f ∈ fs, zn2 f) : zn2 (zok key valid op name v fs) := by
 intro s p i hi; unfold zok at hi; by_cases h0 : zdt valid op v fs.length = false
 ·simp only [if_pos h0, List.mem_singleton] at hi
  subst hi; exact ⟨by simp, by simp [zcb], by simp [zcb]⟩
 ·simp only [if_neg h0] at hi
  have h0 : zdt valid op v fs.length = true := by simpa using h0
  by_cases h15 : op = 15
  ·simp only [if_pos h15] at hi
   match fs, hf, hi with
   | f :: g :: r, hf, hi => exact zwq (hf f (by simp)) (hf g (by simp)) (.inl rfl) s p i hi
   | [], _, hi => cases hi
   | [_], _, hi => cases hi
  ·simp only [if_neg h15] at hi
   by_cases h16 : op = 16
   ·simp only [if_pos h16] at hi
    match fs, hf, hi with
    | f :: g :: r, hf, hi => exact zwq (hf f (by simp)) (hf g (by simp)) (.inr rfl) s p i hi
    | [], _, hi => cases hi
    | [_], _, hi => cases hi
   ·simp only [if_neg h16] at hi
    by_cases h18 : op = 18
    ·simp only [if_pos h18] at hi
     match fs, hf, hi with
     | f :: g :: k :: r, hf, hi => exact zzhf (hf f (by simp)) (hf g (by simp)) (hf k (by simp)) s p i hi
     | [], _, hi => cases hi
     | [_], _, hi => cases hi
     | [_, _], _, hi => cases hi
    ·simp only [if_neg h18, List.mem_append, List.mem_singleton] at hi
     rcases hi with h | h
     ·exact z1s hf _ _ i h
     ·subst h; exact zzhe h0 h15 h16 h18 hop
mutual
theorem zz6 : ∀ (x : zam), x.fit -> zn2 (trX key valid x)
 | .mk op name v args, h => by
  unfold zam.fit at h; unfold trX; exact z3n h.1 (zz8 args h.2.2.2.2.2)
theorem zz8 : ∀ (l : List zam), zam.fits l -> ∀ f ∈ trF key valid l, zn2 f
 | [], _, f, hf => by unfold trF at hf; cases hf
 | x :: l, h, f, hf => by
  unfold zam.fits at h; unfold trF at hf; rcases yat.1 hf with rfl | hf
  ·exact zz6 x h.1
  ·exact zz8 l h.2 f hf
end
end
def zm7 : List XIns -> Int -> Int × Bool
 | [], d => (d, true)
 | i :: l, d => if i.op = 255 then (if d - 1 < 0 then (0, false) else zm7 l (d - 1)) else if d < zcb i then (0, false) else zm7 l (d + (1 - zcb i))
theorem zmu : ∀ {l : List XIns} {d e : Int} {i : XIns}, zm7 l d = (e, true) -> zm7 (l ++ [i]) d = zm7 [i] e
 | [], d, e, i, h => by
  simp only [zm7, Prod.mk.injEq, and_true] at h; subst h; rfl
 | j :: l, d, e, i, h => by
  rw [List.cons_append]; unfold zm7 at h ⊢
  split at h
  ·rename_i h1
   rw [if_pos h1]; split at h
   ·cases h
   ·rename_i h2
    rw [if_neg h2]; exact zmu h
  ·rename_i h1
   rw [if_neg h1]; split at h
   ·cases h
   ·rename_i h2
    rw [if_neg h2]; exact zmu h
theorem z9f {l : List XIns} {e : Int} (h : zm7 l 0 = (e, true)) (h1 : 1 <= e) : zm7 (l ++ [⟨255, 0, 0⟩]) 0 = (e - 1, true) := by
 rw [zmu h]; unfold zm7; rw [if_pos rfl, if_neg (by omega)]; rfl
theorem eff_op {l : List XIns} {e : Int} {i : XIns} (h : zm7 l 0 = (e, true)) (h0 : i.op < 255) (h1 : zcb i <= e) : zm7 (l ++ [i]) 0 = (e + (1 - zcb i), true) := by
 rw [zmu h]; unfold zm7; rw [if_neg (by omega), if_neg (by omega)]; rfl
end Go.Am
namespace Go.Proofs
open Go Go.Am
variable [zcm]
variable {t tf : Tr zal}
theorem zwl {l : List XIns} {v : zab} (hv : RSl t 3 (l.map XIns.d) v) {i : Nat} {x : XIns} (hx : l[i]? = some x) :
  ∃ b off, zae C19 37 v (.int .i64 (i : Int)) = some (.ptr b off) /\ zao C19 54 ⟨0, t⟩ (.ptr b off) = some (.agg x.cells) /\ zai C19 54 0 (.ptr b off) = some (.ptr b (off + 0)) /\ zai C19 54 1 (.ptr b off) = some (.ptr b (off + 1)) /\ zai C19 54 2 (.ptr b off) = some (.ptr b (off + 2)) ∧
   zao C19 5 ⟨0, t⟩ (.ptr b (off + 0)) = some (.int .u8 x.op) /\ zao C19 3 ⟨0, t⟩ (.ptr b (off + 1)) = some (.int .i64 x.a) /\ zao C19 3 ⟨0, t⟩ (.ptr b (off + 2)) = some (.int .i64 x.b) := by
 obtain ⟨b, off, cs, g1, g2, g3, _, g5⟩ := zkk.at sl37 (by simp) hv (i := i) (d := x.d) (by simp [hx])
 rw [z0v] at g5; subst g5; exact ⟨b, off, g1, g2, by kernel_rfl, by kernel_rfl, by kernel_rfl, g3.load1 ty5 rfl rfl, g3.load1 ty3 rfl rfl, g3.load1 ty3 rfl rfl⟩
theorem zzf {l : List XIns} {v : zab} {d d' n : Int} {i : Nat} {x : XIns} {Q : zaw} (hv : RSl t 3 (l.map XIns.d) v) (hx : l[i]? = some x) (hi : i < 1000000) (hop : x.op < 256) (hd : -1000000000 <= d' /\ d' <= 1000000000) (hn : 0 <= n /\ n <= 3)
  (h0 : x.op = 255 -> d' = d - 1) (h1 : x.op ≠ 255 -> d' = d /\ n = zcb x)
  (hQ : ∀ e : Int, (if x.op = 255 then (if d' < 0 then False else e = d') else (if d' < n then False else e = d' + (1 - n))) -> jp 23 2 [v, .int .i64 e, .int .i64 ((i + 1 : Nat) : Int)] t Q)
  (hF : (if x.op = 255 then d' < 0 else d' < n) -> Q (.tup [.int .i64 0, .bool false]) t) : jp 23 51 [v, .int .i64 d', .int .i64 (i : Int), .int .i64 n] t Q := by
 obtain ⟨b, off, g1, g2, g3, g4, g5, g6, g7, g8⟩ := zwl hv hx
 have ei : zah .i64 ((i : Int) + 1) = ((i + 1 : Nat) : Int) := by rw [zak (by omega) (by omega)]; omega
 have en : zah .i64 (d' + zah .i64 (1 - n)) = d' + (1 - n) := by rw [zak (n := 1 - n) (by omega) (by omega), zak (by omega) (by omega)]
 refine j23_51 _ _ _ _ ?_
 simp only [zzd3, wpT, g1, g3, g6, zaa, zag, ei, en]; by_cases h255 : x.op = 255
 ·rw [if_pos h255] at hF
  have e1 : iEq (x.op : Int) 255 = true := zbu.2 (by omega)
  simp only [e1, if_true, Bool.not_true, yar, if_false, zax]; by_cases hlt : d' < 0
  ·rw [if_pos hlt]; exact hF hlt
  ·rw [if_neg hlt]
   exact hQ d' (by rw [if_pos h255, if_neg hlt])
 ·rw [if_neg h255] at hF
  have e1 : iEq (x.op : Int) 255 = false := by
   cases hq : iEq (x.op : Int) 255 with
   | false => rfl
   | true => have := zbu.1 hq; omega
  simp only [e1, if_true, Bool.not_false, yar, if_false, zax]; by_cases hlt : d' < n
  ·rw [if_pos hlt]; exact hF hlt
  ·rw [if_neg hlt]
   exact hQ (d' + (1 - n)) (by rw [if_neg h255, if_neg hlt])
theorem zzaq (n : Int) : zah .u8 n = n % 256 := by
 rw [zc0]; simp only [IntKind.wrap, IntKind.bits, IntKind.signed]; simp
theorem zzg {l : List XIns} {v : zab} (hv : RSl t 3 (l.map XIns.d) v) (hn : l.length < 1000000) (hf : ∀ i ∈ l, i.op < 256 /\ 0 <= zcb i /\ zcb i <= 3) :
  ∀ (m i : Nat) (d : Int), i + m = l.length -> -(i : Int) * 4 <= d -> d <= (i : Int) * 4 -> jp 23 2 [v, .int .i64 d, .int .i64 (i : Int)] t (fun r u => r = .tup [.int .i64 (zm7 (l.drop i) d).1, .bool (zm7 (l.drop i) d).2] /\ u = t) := by
 intro m; induction m with
 | zero =>
  intro i d hi h1 h2; refine j23_2 _ _ _ ?_
  simp only [zzf1, wpT, hv.len, zaa, zag, yag, zax]; rw [if_neg (by omega), yau (by omega)]
  (first | exact ⟨rfl, rfl⟩ | exact ⟨rfl, trivial⟩ | trivial)
 | succ m ih =>
  intro i d hi h1 h2; have hlt : i < l.length := by omega
  have hx : l[i]? = some l[i] := yae hlt
  obtain ⟨f1, f2, f3⟩ := hf _ (List.getElem_mem hlt)
  obtain ⟨b, off, g1, g2, g3, g4, g5, g6, g7, g8⟩ := zwl hv hx
  rw [yam hlt]; generalize hX : l[i] = x at *
  have fin : ∀ (d' n : Int), 0 <= n -> n <= 3 -> (x.op = 255 -> d' = d - 1) -> (x.op ≠ 255 -> d' = d /\ n = zcb x) -> jp 23 51 [v, .int .i64 d', .int .i64 (i : Int), .int .i64 n] t (fun r u => r = .tup [.int .i64 (zm7 (x :: l.drop (i + 1)) d).1, .bool (zm7 (x :: l.drop (i + 1)) d).2] /\ u = t) := by
   intro d' n n0 n3 k0 k1; have hd' : d - 1 <= d' /\ d' <= d := by
    by_cases h : x.op = 255
    ·have := k0 h; omega
    ·have := (k1 h).1; omega
   refine zzf hv hx (by omega) f1 (by omega) ⟨n0, n3⟩ k0 k1 (fun e he => ?_) (fun he => ?_)
   ·have hE : zm7 (x :: l.drop (i + 1)) d = zm7 (l.drop (i + 1)) e /\ d - 4 <= e /\ e <= d + 4 := by
     show (if x.op = 255 then (if d - 1 < 0 then ((0 : Int), false) else zm7 (l.drop (i + 1)) (d - 1)) else if d < zcb x then ((0 : Int), false) else zm7 (l.drop (i + 1)) (d + (1 - zcb x))) = _ /\ _
     by_cases h : x.op = 255
     ·rw [if_pos h] at he ⊢
      have k := k0 h
      subst k; split at he
      ·exact he.elim
      ·rename_i q; rw [if_neg q, he]; exact ⟨rfl, by omega, by omega⟩
     ·rw [if_neg h] at he ⊢
      obtain ⟨q1, q2⟩ := k1 h
      subst q1 q2
      split at he
      ·exact he.elim
      ·rename_i q; rw [if_neg q, he]; exact ⟨rfl, by omega, by omega⟩
    rw [hE.1]; exact ih (i + 1) e (by omega) (by omega) (by omega)
   ·have hE : zm7 (x :: l.drop (i + 1)) d = (0, false) := by
     show (if x.op = 255 then (if d - 1 < 0 then ((0 : Int), false) else zm7 (l.drop (i + 1)) (d - 1)) else if d < zcb x then ((0 : Int), false) else zm7 (l.drop (i + 1)) (d + (1 - zcb x))) = _
     by_cases h : x.op = 255
     ·rw [if_pos h] at he ⊢
      rw [if_pos (by have := k0 h; omega)]
     ·rw [if_neg h] at he ⊢
      obtain ⟨q1, q2⟩ := k1 h
      rw [if_pos (by omega)]
    rw [hE]; exact ⟨rfl, rfl⟩
  refine j23_2 _ _ _ ?_
  have hl : za9 v = some (.int .i64 (l.length : Int)) := by rw [hv.len, yag]
  unfold zzf1; show zds (za9 v) _
  rw [hl, zaa]; show zds (z8n .i64 (.int .i64 (l.length : Int))) _
  rw [zag, zaa]; refine zbp (zax.2 (by omega)) ?_
  show zds (zae C19 37 v (.int .i64 (i : Int))) _
  rw [g1, zaa]; show zds (zai C19 54 0 (.ptr b off)) _
  rw [g3, zaa]; show zds (zao C19 5 ⟨0, t⟩ (.ptr b (off + 0))) _
  rw [g6, zaa]; show zds (z8n .u8 (.int .u8 (x.op : Int))) _
  rw [zag, zaa]; have pos : ∀ {k : Nat} {y z : T} {Q : zaw}, x.op = k -> wp 23 y t Q -> wp 23 (.ite (iEq (x.op : Int) (k : Int)) y z) t Q := fun h hx => zbp (zbu.2 (by omega)) hx
  have neg : ∀ {k : Nat} {y z : T} {Q : zaw}, x.op ≠ k -> wp 23 z t Q -> wp 23 (.ite (iEq (x.op : Int) (k : Int)) y z) t Q := fun h hy => zem (fun e => absurd (zbu.1 e) (by omega)) hy
  have p1 : ∀ {k : Nat}, (k = 3 \/ k = 4 \/ k = 5 \/ k = 12) -> x.op = k -> zcb x = 1 := by
   intro k h1 h2; unfold zcb; rw [if_pos (by omega)]
  by_cases c255 : x.op = 255
  ·refine pos c255 ?_
   have ed : zah .i64 (d - 1) = d - 1 := zak (by omega) (by omega)
   show jp 23 51 [v, .int .i64 (zah .i64 (d - 1)), .int .i64 (i : Int), .int .i64 0] t _
   rw [ed]; exact fin (d - 1) 0 (by omega) (by omega) (fun _ => rfl) (fun h => absurd c255 h)
  ·refine neg c255 ?_
   by_cases c3 : x.op = 3
   ·refine pos c3 (pos c3 ?_)
    exact fin d 1 (by omega) (by omega) (fun h => absurd h c255) (fun _ => ⟨rfl, (p1 (by omega) c3).symm⟩)
   ·refine neg c3 ?_
    by_cases c4 : x.op = 4
    ·refine pos c4 (pos c4 ?_)
     exact fin d 1 (by omega) (by omega) (fun h => absurd h c255) (fun _ => ⟨rfl, (p1 (by omega) c4).symm⟩)
    ·refine neg c4 ?_
     by_cases c5 : x.op = 5
     ·refine pos c5 (pos c5 ?_)
      exact fin d 1 (by omega) (by omega) (fun h => absurd h c255) (fun _ => ⟨rfl, (p1 (by omega) c5).symm⟩)
     ·refine neg c5 ?_
      by_cases c12 : x.op = 12
      ·refine pos c12 ?_
       exact fin d 1 (by omega) (by omega) (fun h => absurd h c255) (fun _ => ⟨rfl, (p1 (by omega) c12).symm⟩)
      ·refine neg c12 ?_
       by_cases c6 : x.op = 6
       ·refine pos c6 ?_
        have e6 : zcb x = x.b := by unfold zcb; rw [if_neg (by omega), if_pos c6]
        simp only [wpT, g1, g5, g8, zaa, zag]; exact fin d x.b (by omega) (by omega) (fun h => absurd h c255) (fun _ => ⟨rfl, e6.symm⟩)
       ·refine neg c6 ?_
        by_cases c7 : x.op = 7
        ·refine pos c7 ?_
         have e7 : zcb x = if x.a % 256 = 17 \/ x.a % 256 = 24 \/ x.a % 256 = 25 \/ x.a % 256 = 26 then 1 else 2 := by unfold zcb; rw [if_neg (by omega), if_neg c6, if_pos c7]
         simp only [wpT, g1, g4, g7, zaa, zag, zzaq, zbu]; by_cases a17 : x.a % 256 = 17
         ·rw [if_pos a17]
          exact fin d 1 (by omega) (by omega) (fun h => absurd h c255) (fun _ => ⟨rfl, by rw [e7, if_pos (by omega)]⟩)
         ·rw [if_neg a17]
          by_cases a24 : x.a % 256 = 24
          ·rw [if_pos a24]
           exact fin d 1 (by omega) (by omega) (fun h => absurd h c255) (fun _ => ⟨rfl, by rw [e7, if_pos (by omega)]⟩)
          ·rw [if_neg a24]
           by_cases a25 : x.a % 256 = 25
           ·rw [if_pos a25]
            exact fin d 1 (by omega) (by omega) (fun h => absurd h c255) (fun _ => ⟨rfl, by rw [e7, if_pos (by omega)]⟩)
           ·rw [if_neg a25]
            by_cases a26 : x.a % 256 = 26
            ·rw [if_pos a26]
             exact fin d 1 (by omega) (by omega) (fun h => absurd h c255) (fun _ => ⟨rfl, by rw [e7, if_pos (by omega)]⟩)
            ·rw [if_neg a26]
             exact fin d 2 (by omega) (by omega) (fun h => absurd h c255) (fun _ => ⟨rfl, by rw [e7, if_neg (by omega)]⟩)
        ·refine neg c7 ?_
         by_cases c8 : x.op = 8
         ·refine pos c8 ?_
          have e8 : zcb x = if x.b = 22 then 3 else 2 := by unfold zcb; rw [if_neg (by omega), if_neg c6, if_neg c7, if_pos c8]
          simp only [wpT, g1, g5, g8, zaa, zag, zbu]; by_cases b22 : x.b = 22
          ·rw [if_pos b22]
           exact fin d 3 (by omega) (by omega) (fun h => absurd h c255) (fun _ => ⟨rfl, by rw [e8, if_pos b22]⟩)
          ·rw [if_neg b22]
           exact fin d 2 (by omega) (by omega) (fun h => absurd h c255) (fun _ => ⟨rfl, by rw [e8, if_neg b22]⟩)
         ·refine neg c8 ?_
          have e0 : zcb x = 0 := by unfold zcb; rw [if_neg (by omega), if_neg c6, if_neg c7, if_neg c8]
          exact fin d 0 (by omega) (by omega) (fun h => absurd h c255) (fun _ => ⟨rfl, e0.symm⟩)
theorem z9e {l : List XIns} {v : zab} (hv : RSl t 3 (l.map XIns.d) v) (hn : l.length < 1000000) (hf : ∀ i ∈ l, i.op < 256 /\ 0 <= zcb i /\ zcb i <= 3) : pvC C19 F 23 [v] t = some (.tup [.int .i64 (zm7 l 0).1, .bool (zm7 l 0).2]) := by
 refine zbj.2 (w23 _ ?_)
 simp only [t23, wpT]; have := zzg hv hn hf l.length 0 0 (by omega) (by omega) (by omega)
 rw [List.drop_zero] at this; exact this
end Go.Proofs
namespace Go.Proofs
open Go Go.Am
variable [zcm]
variable {t tf : Tr zal}
def zuq (bits p : Nat) : Bool := decide (bits / 2 ^ (p % 64) % 2 = 1)
def z35 (c : List XIns) : Prop := c.length <= 800 /\ (∀ i ∈ c, zzds i) /\ ∀ bit, Am.Way c bit 0 0 c.length 1
theorem zs3 : ∀ (l : List za4) (s : Nt), (∀ x ∈ l, x.fit) -> (∀ x ∈ l, zf3 x = true) -> ∀ q ∈ (trC zba zap l s).2, z35 q.1 /\ z35 q.2
 | [], s, _, _, q, h => by simp [trC] at h
 | x :: l, s, hf, hb, q, h => by
  have hxb := hb x (by simp)
  unfold zf3 at hxb; rw [yac] at hxb; have hxf := hf x (by simp)
  have one : ∀ (y : zam) (n : Nt), y.fit -> zmc y = true -> z35 (trX zba zap y n 0).2 := fun y n h1 h2 => by
   have := (zea (key := zba) (valid := zap) y n 0).1
   have := zg9 h2
   exact ⟨by omega, zz6 y h1 n 0, ends h1 n⟩
  simp only [trC, yat] at h; rcases h with rfl | h
  ·exact ⟨one _ _ hxf.2.2.2.2.2.1 hxb.1, one _ _ hxf.2.2.2.2.2.2 hxb.2⟩
  ·exact zs3 l _ (fun y hy => hf y (by simp [hy])) (fun y hy => hb y (by simp [hy])) q h
section
variable {bits : Nat} {k : Int} {v8 : zab} {nm : List Nat} {a b c vn vc vw vt : zab} {Q : zaw}
theorem zzas {code : List XIns} (hb : bits < 18446744073709551616) (hv8 : RSl tf 3 (code.map XIns.d) v8) (hl : code.length <= 800) (hQ : ∀ t', TLe tf t' -> jp 6 2 [.int .u64 (bits : Int), .int .i64 (zah .i64 (k + 1)), .str nm, a, b, c, vn, vc, vw, vt] t' Q) (hfine : ∀ i ∈ code, zzds i)
  {q r : Nat} {d f : Int} (hw : Am.Way code (zuq bits) q d r f) : r = code.length -> f = 1 -> ∀ (w : List XIns) (v9 : zab) (t : Tr zal), zm7 w 0 = (d, true) -> w.length <= q -> (∀ i ∈ w, i.op < 256 /\ 0 <= zcb i /\ zcb i <= 3) -> Objs C19.base tf t [zaq C19.base 3 (w.map XIns.d) v9] →
   jp 6 6 [.int .u64 (bits : Int), .int .i64 k, v8, v9, .int .i64 (q : Int), .str nm, a, b, c, vn, vc, vw, vt] t Q := by
 have push : ∀ {w : List XIns} {v9 : zab} {t : Tr zal} {n1 n2 : Nat} (i : XIns), w.length <= 1000 -> Objs C19.base tf t [zaq C19.base 3 (w.map XIns.d) v9] -> t.get n1 = none -> ∃ t1, zav C19 37 1 [(0, .agg [.int .u8 i.op, .int .i64 i.a, .int .i64 i.b])] ⟨n1, t⟩ = some (.slice n1 0 1 1, ⟨n1 + 1, t1⟩) /\ (t1.get n2 = none -> C19.base <= n2 -> ∃ v2 t2, zbf C19 37 37 v9 (.slice n1 0 1 1) ⟨n2, t1⟩ = some (v2, ⟨n2 + 1, t2⟩) /\ Objs C19.base tf t2 [zaq C19.base 3 ((w ++ [i]).map XIns.d) v2]) := by
  intro w v9 t n1 n2 i hwl h hn1; obtain ⟨t1, d1, d2, d3, d4⟩ := z7r (i := i) hn1
  have h1 := h.junk hn1 d4
  refine ⟨t1, d1, fun hn2 hb2 => ?_⟩
  have ln : Loose C19.base tf t1 3 (w.map XIns.d) v9 := h1.ok (zaq C19.base 3 (w.map XIns.d) v9) (by simp)
  obtain ⟨t2, c1, c2, c3, c4⟩ := ze3 (C := C19) el37 (m := [i.d]) ln d2 (by
   rw [zbc]; exact ⟨_, _, rfl, z0v.2 rfl, zbr.2 rfl⟩) (by
   intro a ha; simp only [XIns.cells, List.flatten_cons, List.flatten_nil, ybe, yat, List.not_mem_nil, or_false] at ha; rcases ha with rfl | rfl | rfl <;> rfl) (by simp) (by simp; omega) hn2 hb2 h1.tle
  have hd : w.map XIns.d ++ [i.d] = (w ++ [i]).map XIns.d := by simp
  rw [hd] at c2; refine ⟨_, t2, c1, ?_⟩
  refine Objs.upd (A := []) (B := []) (o := zaq C19.base 3 (w.map XIns.d) v9) h1 (fun k k1 k2 => c4 k ?_ (fun e => k1 (zfx.2 e))) (fun k hk => ?_) c2 (by simp [zaq, zik]) c3
  ·intro e; subst e; exact k2 (by simp [zaq, zik])
  ·have : k = n2 := by simpa [zaq, zik] using hk
   subst this; exact .inr ⟨hn2, hb2⟩
 induction hw with
 | nil =>
  intro hr hf w v9 t he hwl hwf h; subst hr hf
  have ln : Loose C19.base tf t 3 (w.map XIns.d) v9 := h.ok (zaq C19.base 3 (w.map XIns.d) v9) (by simp)
  refine j6_6 _ _ _ _ _ _ _ _ _ _ _ _ _ ?_
  simp only [t6_6, wpT]; rw [(hv8.mono h.tle).len, zaa, yag, zag, zaa]
  refine zem (fun e => absurd (zax.1 e) (by omega)) ?_
  have ef := z9e (ln.read h.tle) (by omega) hwf
  rw [he] at ef; rw [q23, ef, zaa]; simp only [zas, zab.asTup, zac, zbh, yaa, yab, zaa, zag, zay]; refine zem (by simp) (zem (fun e => absurd rfl (zie.1 e)) (hQ t h.tle))
 | cons hs hw' ih =>
  intro hr hf w v9 t he hwl hwf h; have ihh := ih hr hf
  rename_i p q r d e f; have jump57 : ∀ {v2 : zab} {t2 : Tr zal} {w2 : List XIns}, p < q -> q <= code.length -> zm7 w2 0 = (e, true) -> w2.length <= q -> (∀ i ∈ w2, i.op < 256 /\ 0 <= zcb i /\ zcb i <= 3) -> Objs C19.base tf t2 [zaq C19.base 3 (w2.map XIns.d) v2] →
    jp 6 57 [.int .u64 (bits : Int), .int .i64 k, v8, v2, .int .i64 (p : Int), .int .i64 (q : Int), .str nm, a, b, c, vn, vc, vw, vt] t2 Q := by
   intro v2 t2 w2 h1 h2 h3 h4 h5 h6; refine j6_57 _ _ _ _ _ _ _ _ _ _ _ _ _ _ ?_
   simp only [t6_57, wpT]; refine zem (fun e => absurd (zc4.1 e) (by omega)) ?_
   rw [(hv8.mono h6.tle).len, zaa, yag, zag, zaa]
   refine zem (fun e => absurd (zax.1 e) (by omega)) ?_
   exact ihh w2 v2 t2 h3 h4 h5 h6
  refine j6_6 _ _ _ _ _ _ _ _ _ _ _ _ _ ?_
  cases hs with
  | jump h1 h2 h3 h4 h5 =>
   rename_i i; have hlt := (yad.1 h1).1
   obtain ⟨pb, off, g1, g2, _, _, _, _, _, _⟩ := zwl (hv8.mono h.tle) h1
   have hz : zoy [(.int .u8 0), (.int .i64 0), (.int .i64 0)] (.agg i.cells) = some (cellsOf i.cells) := zfl rfl
   simp only [t6_6, wpT]; rw [(hv8.mono h.tle).len, zaa, yag, zag, zaa]
   refine zbp (zax.2 (by omega)) ?_
   rw [g1, zaa, g2, zaa, hz, zaa]; simp only [XIns.cells, cellsOf, zig, yaa, yab, if_true]; refine zbp (zbu.2 (by omega)) ?_
   rw [h3]; exact jump57 h4 h5 he (by omega) hwf h
  | cond h1 h2 h3 h4 h5 h6 =>
   rename_i i; have hlt := (yad.1 h1).1
   obtain ⟨pb, off, g1, g2, _, _, _, _, _, _⟩ := zwl (hv8.mono h.tle) h1
   have hz : zoy [(.int .u8 0), (.int .i64 0), (.int .i64 0)] (.agg i.cells) = some (cellsOf i.cells) := zfl rfl
   have em : Int.tmod (p : Int) 64 = ((p % 64 : Nat) : Int) := by rw [Int.tmod_eq_emod_of_nonneg (by omega)]; rfl
   have hsh : zzam .u64 (bits : Int) ((p % 64 : Nat) : Int) = some (.int .u64 ((bits / 2 ^ (p % 64) : Nat) : Int)) := zt9 (by omega)
   have hdiv : bits / 2 ^ (p % 64) < 18446744073709551616 := Nat.lt_of_le_of_lt (Nat.div_le_self _ _) hb
   have hla : zeh Nat.land .u64 ((bits / 2 ^ (p % 64) : Nat) : Int) 1 = some (.int .u64 ((bits / 2 ^ (p % 64) % 2 : Nat) : Int)) := by
    have := zdg (f := Nat.land) (k := .u64) (x := bits / 2 ^ (p % 64)) (y := 1) (show _ < kHi .u64 from hdiv) (by decide)
    rw [show Nat.land (bits / 2 ^ (p % 64)) 1 = bits / 2 ^ (p % 64) % 2 from Nat.and_one_is_mod _] at this
    exact this
   have ep : zah .i64 ((p : Int) + 1) = (p : Int) + 1 := zak (by omega) (by omega)
   have go55 : jp 6 55 [.int .u64 (bits : Int), .int .i64 k, v8, v9, .int .i64 (p : Int), .int .i64 (q : Int), .str nm, a, b, c, vn, vc, vw, vt] t Q := by
    refine j6_55 _ _ _ _ _ _ _ _ _ _ _ _ _ _ ?_
    simp only [t6_55, wpT, if_true]; intro n1 hn1 _; obtain ⟨t1, d1, d2⟩ := push (n2 := 0) ⟨255, 0, 0⟩ (by omega) h hn1
    rw [show (zab.agg [.int .u8 255, .int .i64 0, .int .i64 0]) = .agg [.int .u8 ((255 : Nat) : Int), .int .i64 0, .int .i64 0] from rfl, d1, zaa]
    intro n2 hn2 hb2; obtain ⟨t1', d1', d2'⟩ := push (n2 := n2) ⟨255, 0, 0⟩ (by omega) h hn1
    rw [d1] at d1'
    have et : t1 = t1' := by cases d1'; rfl
    subst et; obtain ⟨v2, t2, e1, e2⟩ := d2' hn2 hb2
    rw [e1, zaa]; refine jump57 h4 h5 (z9f he h6) (by simp; omega) (fun j hj => ?_) e2
    rcases List.mem_append.1 hj with hj | hj
    ·exact hwf j hj
    ·rw [List.mem_singleton] at hj; subst hj; exact ⟨by decide, by decide, by decide⟩
   simp only [t6_6, wpT]; rw [(hv8.mono h.tle).len, zaa, yag, zag, zaa]
   refine zbp (zax.2 (by omega)) ?_
   rw [g1, zaa, g2, zaa, hz, zaa]; simp only [XIns.cells, cellsOf, zig, yaa, yab, if_true, em, hsh, hla, ep, zaa, zag]; refine zem (fun e => absurd (zbu.1 e) (by omega)) ?_
   by_cases hbit : zuq bits p = true
   ·rw [if_pos hbit] at h3
    unfold zuq at hbit; have hbit := of_decide_eq_true hbit
    have e1 : iEq ((bits / 2 ^ (p % 64) % 2 : Nat) : Int) 1 = true := zbu.2 (by omega)
    simp only [e1, if_true, h3]; rcases h2 with h2 | h2
    ·refine zbp (zbu.2 (by omega)) (zbp (zbu.2 (by omega)) go55)
    ·refine zem (fun e => absurd (zbu.1 e) (by omega)) (zbp (zbu.2 (by omega)) go55)
   ·rw [if_neg hbit] at h3
    unfold zuq at hbit; have hbit : ¬ (bits / 2 ^ (p % 64) % 2 = 1) := fun e => hbit (decide_eq_true e)
    have e1 : iEq ((bits / 2 ^ (p % 64) % 2 : Nat) : Int) 1 = false := by
     cases hq : iEq ((bits / 2 ^ (p % 64) % 2 : Nat) : Int) 1 with
     | false => rfl
     | true => have := zbu.1 hq; omega
    simp only [e1, yar, if_false, h3]; rcases h2 with h2 | h2
    ·refine zbp (zbu.2 (by omega)) (zbp (zbu.2 (by omega)) go55)
    ·refine zem (fun e => absurd (zbu.1 e) (by omega)) (zbp (zbu.2 (by omega)) go55)
  | op h1 h2 h3 =>
   rename_i i; have hlt := (yad.1 h1).1
   have hfi := hfine i (List.mem_of_getElem? h1)
   obtain ⟨pb, off, g1, g2, _, _, _, _, _, _⟩ := zwl (hv8.mono h.tle) h1
   have hz : zoy [(.int .u8 0), (.int .i64 0), (.int .i64 0)] (.agg i.cells) = some (cellsOf i.cells) := zfl rfl
   have ep : zah .i64 ((p : Int) + 1) = ((p + 1 : Nat) : Int) := by rw [zak (by omega) (by omega)]; omega
   have goOp : ∀ b0, t.get b0 = none -> C19.base <= b0 -> zds (zav C19 37 1 [(0, .agg [.int .u8 (i.op : Int), .int .i64 i.a, .int .i64 i.b])] ⟨b0, t⟩) fun z => ∀ b1, z.2.t.get b1 = none -> C19.base <= b1 -> zds (zbf C19 37 37 v9 z.1 ⟨b1, z.2.t⟩) fun y => jp 6 57 [.int .u64 (bits : Int), .int .i64 k, v8, y.1, .int .i64 (p : Int), .int .i64 ((p + 1 : Nat) : Int), .str nm, a, b, c, vn, vc, vw, vt] y.2.t Q := by
    intro n1 hn1 _; obtain ⟨t1, d1, d2⟩ := push (n2 := 0) i (by omega) h hn1
    rw [d1, zaa]; intro n2 hn2 hb2; obtain ⟨t1', d1', d2'⟩ := push (n2 := n2) i (by omega) h hn1
    rw [d1] at d1'
    have et : t1 = t1' := by cases d1'; rfl
    subst et; obtain ⟨v2, t2, e1, e2⟩ := d2' hn2 hb2
    have e1 : zbf C19 37 37 v9 (.slice n1 0 1 1) ⟨n2, t1⟩ = some (v2, ⟨n2 + 1, t2⟩) := e1
    rw [e1, zaa]; refine jump57 (by omega) (by omega) (eff_op he hfi.1 h3) (by simp; omega) (fun j hj => ?_) e2
    rcases List.mem_append.1 hj with hj | hj
    ·exact hwf j hj
    ·rw [List.mem_singleton] at hj; subst hj; exact ⟨by omega, hfi.2.1, hfi.2.2⟩
   simp only [t6_6, wpT]; rw [(hv8.mono h.tle).len, zaa, yag, zag, zaa]
   refine zbp (zax.2 (by omega)) ?_
   rw [g1, zaa, g2, zaa, hz, zaa]; simp only [XIns.cells, cellsOf, zig, yaa, yab, if_true, ep]; refine zem (fun e => absurd (zbu.1 e) (by omega)) (zem (fun e => absurd (zbu.1 e) (by omega)) (zem (fun e => absurd (zbu.1 e) (by omega)) goOp))
end
end Go.Proofs
namespace Go.Proofs
open Go Go.Am
variable [zcm]
variable {t tf : Tr zal}
theorem z9r {l : List (List XIns)} {v : zab} (hv : RSl tf 1 (l.map zc3) v) (ht : TLe tf t) {i : Nat} {x : List XIns} (hx : l[i]? = some x) :
  ∃ b off u, zae C19 32 v (.int .i64 (i : Int)) = some (.ptr b off) /\ zao C19 37 ⟨0, t⟩ (.ptr b off) = some u /\ RSl tf 3 (x.map XIns.d) u := by
 obtain ⟨b, off, cs, g1, g2, g3, _, g5⟩ := zkk.at sl32 (fun _ => rfl) hv (i := i) (d := zc3 x) (by simp [hx])
 unfold zc3 at g5; rw [zk6] at g5; obtain ⟨u, rfl, hu⟩ := g5
 exact ⟨b, off, u, g1, zed (H := ⟨0, tf⟩) (fun _ _ k => ht _ _ k) g2, hu⟩
theorem z9c {bits : Nat} {nm : List Nat} {a b c vn vc vw vt : zab} {cs : List (List XIns × List XIns)} (hb : bits < 18446744073709551616) (hn : cs.length <= 400) (hw : RSl tf 1 (cs.map fun q => zc3 q.1) vw) (ht : RSl tf 1 (cs.map fun q => zc3 q.2) vt) (hgood : ∀ q ∈ cs, z35 q.1 /\ z35 q.2) :
  ∀ (m j : Nat) (t : Tr zal), j + m = 2 * cs.length -> TLe tf t -> jp 6 2 [.int .u64 (bits : Int), .int .i64 (j : Int), .str nm, a, b, c, vn, vc, vw, vt] t (fun v t' => v = .bool true /\ TLe tf t') := by
 have hw' : RSl tf 1 ((cs.map Prod.fst).map zc3) vw := by rw [List.map_map]; exact hw
 have ht' : RSl tf 1 ((cs.map Prod.snd).map zc3) vt := by rw [List.map_map]; exact ht
 intro m; induction m with
 | zero =>
  intro j t hj hl; refine j6_2 _ _ _ _ _ _ _ _ _ _ ?_
  have hlen : za9 vw = some (.int .i64 (cs.length : Int)) := by rw [(hw.mono hl).len, yag]
  simp only [t6_2, wpT]; rw [hlen, zaa, zag, zaa, zak (by omega) (by omega)]
  exact zem (fun e => absurd (zax.1 e) (by omega)) ⟨by trivial, hl⟩
 | succ m ih =>
  intro j t hj hl; have hlt : j / 2 < cs.length := by omega
  have hx : cs[j / 2]? = some cs[j / 2] := yae hlt
  obtain ⟨g1, g2⟩ := hgood _ (List.getElem_mem hlt)
  obtain ⟨p1, o1, u1, w1, w2, w3⟩ := z9r hw' hl (i := j / 2) (x := cs[j / 2].1) (by simp [hx])
  obtain ⟨p2, o2, u2, z1, z2, z3⟩ := z9r ht' hl (i := j / 2) (x := cs[j / 2].2) (by simp [hx])
  have e2 : Int.tdiv (j : Int) 2 = ((j / 2 : Nat) : Int) := by rw [Int.tdiv_eq_ediv_of_nonneg (by omega)]; rfl
  have e3 : Int.tmod (j : Int) 2 = ((j % 2 : Nat) : Int) := by rw [Int.tmod_eq_emod_of_nonneg (by omega)]; rfl
  have go : ∀ {code : List XIns} {u : zab}, z35 code -> RSl tf 3 (code.map XIns.d) u -> jp 6 29 [.int .u64 (bits : Int), .int .i64 (j : Int), u, .str nm, a, b, c, vn, vc, vw, vt] t (fun v t' => v = .bool true /\ TLe tf t') := by
   intro code u hg hu; refine j6_29 _ _ _ _ _ _ _ _ _ _ _ ?_
   simp only [t6_29, wpT]; have hnil : Objs C19.base tf t [zaq C19.base 3 (([] : List XIns).map XIns.d) .nilslice] :=
    Objs.add (A := []) (B := []) (o' := zaq C19.base 3 ([] : List D) .nilslice) (z05 hl) (fun _ _ => rfl) (fun k hk => by simp [zaq, zik] at hk) (.inl ⟨rfl, rfl⟩) (by simp [zaq, zik]) hl
   refine zzas (code := code) hb hu hg.1 (fun t' h' => ?_) hg.2.1 (hg.2.2 (zuq bits)) rfl rfl [] .nilslice t rfl (yal _) (fun i hi => by cases hi) hnil
   rw [zak (by omega) (by omega), show (j : Int) + 1 = ((j + 1 : Nat) : Int) by omega]
   exact ih (j + 1) t' (by omega) h'
  have hlen : za9 vw = some (.int .i64 (cs.length : Int)) := by rw [(hw.mono hl).len, yag]
  refine j6_2 _ _ _ _ _ _ _ _ _ _ ?_
  simp only [t6_2, wpT]; rw [hlen, zaa, zag, zaa, zak (n := 2 * (cs.length : Int)) (by omega) (by omega)]
  refine zbp (zax.2 (by omega)) ?_
  rw [e2, zak (by omega) (by omega), w1, zaa, w2, zaa, e3]
  by_cases hodd : j % 2 = 1
  ·refine zbp (zbu.2 (by omega)) ?_
   rw [z1, zaa, z2, zaa]; exact go g2 z3
  ·refine zem (fun e => absurd (zbu.1 e) (by omega)) ?_
   exact go g1 w3
theorem zzdj : pvC C19 F 14 [] t = some (.bool true) := ztw (g := zzgb) (by kernel_rfl) fun _ => rfl
theorem zru {p : zjm} {cs : List zab} {bits : Nat} (hp : p.fit) (hg : z18 t) (hrd : RD t p.d cs) (hb : bits < 18446744073709551616) : Wc C19 F 6 [.agg cs, .int .u64 (bits : Int)] t (fun v t' => v = .bool true /\ TLe t t') := by
 have hs := zzbg hp hrd
 obtain ⟨ca, cb, cc, rfl, ha, hbb, hc⟩ := zp4 hrd
 refine w6 _ _ _ _ _ ?_
 simp only [t6, wpT, q14, zzdj, zaa, zay, Bool.not_true, yar, if_false, q13, hs, zag]; by_cases h2 : (2000 : Int) < sizeP p
 ·exact zbp (zax.2 h2) ⟨by trivial, TLe.refl _⟩
 ·refine zem (fun e => h2 (zax.1 e)) ?_
  rw [q22]; refine z3v hp (TLe.refl t) hg hrd (fun _ => ?_) (fun hbp tf' t' a b c vn vc vw vt k1 k2 r1 r2 r3 r4 r5 r6 r7 => ?_)
  ·have hz : zoy [(.str []), .nilslice, .nilslice, .nilslice, .nilslice, .nilslice, .nilslice, .nilslice] (.agg zzfj) = some (cellsOf zzfj) := zfl rfl
   simp only [zas, zab.asTup, zac, zbh, yaa, yab, zaa, zag]; rw [hz, zaa]; refine zbp rfl (zbp (zie.2 (by decide)) ⟨by trivial, TLe.refl _⟩)
  ·have hz : zoy [(.str []), .nilslice, .nilslice, .nilslice, .nilslice, .nilslice, .nilslice, .nilslice] (.agg [.str p.name, a, b, c, vn, vc, vw, vt]) = some (cellsOf [.str p.name, a, b, c, vn, vc, vw, vt]) := zfl (by
    show (true && (zjy .nilslice a && (zjy .nilslice b && (zjy .nilslice c && (zjy .nilslice vn && (zjy .nilslice vc && (zjy .nilslice vw && (zjy .nilslice vt && true)))))))) = true
    rw [zbi r1, zbi r2, zbi r3, zbi r4, zbi r5, zbi r6, zbi r7]; rfl)
   simp only [zas, zab.asTup, zac, zbh, yaa, yab, zaa, zag]; rw [hz, zaa]; simp only [cellsOf, zju, zfn, yaa, yab]; have hone : zd7 zab.one [.str p.name, a, b, c, vn, vc, vw, vt] = true := by
    rw [zcc]; simp only [ybh, List.all_nil, r1.one, r2.one, r3.one, r4.one, r5.one, r6.one, r7.one]; rfl
   refine zbp hone (zem (fun e => absurd rfl (zie.1 e)) ?_)
   have hbp' := hbp
   unfold zfk at hbp'; simp only [yac, decide_eq_true_eq] at hbp'
   obtain ⟨⟨⟨⟨hb1', hb2'⟩, hb3'⟩, hb4'⟩, hb5'⟩ := hbp'
   have hgood := zs3 p.clauses ⟨[], []⟩ hp.clauses (fun x hx => ybc.1 hb4' x hx)
   have hlenC : ∀ (l : List za4) (s : Nt), (trC zba zap l s).2.length = l.length := by
    intro l; induction l with
    | nil => intro s; rfl
    | cons x l ih => intro s; simp [trC, ih]
   have hlen : (zeo p).2.length <= 400 := by unfold zeo; rw [hlenC]; exact hb2'
   refine Jq.mono (z9c (nm := p.name) (a := a) (b := b) (c := c) (vn := vn) (vc := vc) hb hlen r6 r7 hgood (2 * (zeo p).2.length) 0 t' (by omega) k2) fun v u hh => ⟨hh.1, k1.trans hh.2⟩
end Go.Proofs
namespace Go.Am
open Go Go.RowKit
def zvy {α : Type} (f : Nat -> Option α) : Nat -> Tr α
 | 0 => .leaf
 | n + 1 => match f n with
  | some v => (zvy f n).set n v
  | none => zvy f n
theorem zfg {α : Type} (f : Nat -> Option α) : ∀ (n a : Nat), (zvy f n).get a = if a < n then f a else none := by
 intro n; induction n with
 | zero => intro a; rw [if_neg (by omega)]; exact Tr.get_leaf _
 | succ n ih =>
  intro a; unfold zvy
  cases hf : f n with
  | some v =>
   simp only []; rw [Tr.get_set, ih]; by_cases h : a = n
   ·subst h; rw [if_pos rfl, if_pos (by omega), hf]
   ·rw [if_neg h]
    by_cases h2 : a < n
    ·rw [if_pos h2, if_pos (by omega)]
    ·rw [if_neg h2, if_neg (by omega)]
  | none =>
   simp only []; rw [ih]; by_cases h : a = n
   ·subst h; rw [if_neg (by omega), if_pos (by omega), hf]
   ·by_cases h2 : a < n
    ·rw [if_pos h2, if_pos (by omega)]
    ·rw [if_neg h2, if_neg (by omega)]
def zzad (N : Nat) : Value -> Option zab
 | .bool b => some (.bool b)
 | .int k n => some (.int k n)
 | .string s => some (.str (zbm s))
 | .slice none 0 0 => some .nilslice
 | .slice (some _) 0 0 => some (.slice 0 0 0 0)
 | .slice (some ⟨b, off, none⟩) len cap => if b < N then some (.slice (256 + b) off len cap) else none
 | _ => none
def absB (N : Nat) : Obj -> Option zal
 | .cells cs _ _ => some (.cells (zvy (fun j => (cs[j]?).bind (zzad N)) cs.size) cs.size none)
 | _ => none
def zrb (w : World) : Tr zal := zvy (fun a => if a < 256 then (w.heap[a]?).bind (absB w.heap.size) else (w.heap[a - 256]?).bind (absB w.heap.size)) (256 + w.heap.size)
def muW (w : World) : Mu := ⟨fun a => if a < 256 then some ⟨a, true, 0, 0, true⟩ else if a < 256 + w.heap.size then some ⟨a - 256, true, 0, 0, true⟩ else none, fun _ => none⟩
section
variable {w : World}
theorem z14 {v : Value} {a : zab} (h : zzad w.heap.size v = some a) : zar (muW w) a v := by
 unfold zzad at h; split at h
 ·cases h; rw [zar]
 ·cases h; rw [zar]
 ·cases h; rw [zar]; exact ⟨_, rfl, rfl⟩
 ·cases h; rw [zar]
 ·cases h; rw [zar]; exact .inr ⟨rfl, rfl, rfl, rfl, _, rfl⟩
 ·split at h
  ·rename_i hb
   cases h; rename_i b off len cap _; rw [zar]; refine .inl ⟨⟨b, true, 0, 0, true⟩, cap, ?_, rfl, yal _, fun _ => rfl, fun h => by cases h⟩
   show (if 256 + b < 256 then some (⟨256 + b, true, 0, 0, true⟩ : BI) else if 256 + b < 256 + w.heap.size then some ⟨256 + b - 256, true, 0, 0, true⟩ else none) = _
   rw [if_neg (by omega), if_pos (by omega), show 256 + b - 256 = b by omega]
  ·cases h
 ·cases h
theorem z16 {o : Obj} {x : zal} (h : absB w.heap.size o = some x) (b : Nat) : zm6 (muW w) ⟨b, true, 0, 0, true⟩ x o /\ x.asLoop = none /\ x.asDeferred = none := by
 cases o <;> first | (cases h; done) | skip
 rename_i cs elem fr
 cases h; refine ⟨⟨cs, elem, fr, rfl, yal _, .inl rfl, fun j v hv => ?_, rfl⟩, rfl, rfl⟩
 rw [zfg] at hv; split at hv
 case isFalse => cases hv
 rename_i hj
 cases hc : cs[j]? with
 | none => rw [hc] at hv; cases hv
 | some u =>
  rw [hc] at hv; exact ⟨hj, u, rfl, z14 hv⟩
theorem hrelW : zb1 (256 + w.heap.size) w.heap.size (muW w) ⟨256 + w.heap.size, zrb w⟩ w := by
 have hget : ∀ a x, (zrb w).get a = some x -> ∃ b o, b < w.heap.size /\ w.heap[b]? = some o /\ absB w.heap.size o = some x /\ a < 256 + w.heap.size /\ b = (if a < 256 then a else a - 256) := by
  intro a x hx; unfold zrb at hx; rw [zfg] at hx; split at hx
  case isFalse => cases hx
  rename_i hlt; split at hx
  ·rename_i h
   cases ho : w.heap[a]? with
   | none => rw [ho] at hx; cases hx
   | some o => rw [ho] at hx; exact ⟨a, o, (yaf.1 ho).1, ho, hx, hlt, by rw [if_pos h]⟩
  ·rename_i h
   cases ho : w.heap[a - 256]? with
   | none => rw [ho] at hx; cases hx
   | some o => rw [ho] at hx; exact ⟨a - 256, o, (yaf.1 ho).1, ho, hx, hlt, by rw [if_neg h]⟩
 have hmu : ∀ a, (muW w) a = if a < 256 then some ⟨a, true, 0, 0, true⟩ else if a < 256 + w.heap.size then some ⟨a - 256, true, 0, 0, true⟩ else none := fun _ => rfl
 have big : ∀ a, 256 + w.heap.size <= a -> (muW w) a = none := fun a h => by rw [hmu, if_neg (by omega), if_neg (by omega)]
 have same : ∀ a x i, (zrb w).get a = some x -> (muW w) a = some i -> ∃ o, w.heap[i.b]? = some o /\ i.b < w.heap.size /\ absB w.heap.size o = some x /\ i = ⟨i.b, true, 0, 0, true⟩ := by
  intro a x i hx hi; obtain ⟨b, o, h1, h2, h3, h4, h5⟩ := hget a x hx
  rw [hmu] at hi; split at hi
  ·rename_i h
   cases hi; rw [if_pos h] at h5; subst h5; exact ⟨o, h2, h1, h3, rfl⟩
  ·rename_i h
   rw [if_neg h] at h5; have hi := Option.some.inj hi
   have hb : i.b = b := by rw [<- hi, h5]
   refine ⟨o, by rw [hb]; exact h2, by rw [hb]; exact h1, h3, by rw [<- hi]⟩
 refine ⟨by omega, fun g hg => by rw [hmu, if_pos hg], fun a x i _ hx hi => ?_, yal _, yal _, fun a ha => ⟨big a ha, ?_⟩, fun a x i hx hi => ?_, fun a i ha hi => ?_, fun a b x y i j hx _ hi _ ha _ _ => ?_, fun a x t h => by cases h⟩
 ·obtain ⟨o, _, h2, h3, _⟩ := same a x i hx hi
  exact ⟨h2, (z16 h3 0).2⟩
 ·show (zrb w).get a = none
  unfold zrb; have ha : 256 + w.heap.size <= a := ha
  rw [zfg, if_neg (by omega)]
 ·obtain ⟨o, h1, _, h3, h4⟩ := same a x i hx hi
  exact ⟨o, h1, by rw [h4]; exact (z16 h3 _).1⟩
 ·rw [big a ha] at hi; cases hi
 ·rw [big a ha] at hi; cases hi
end
end Go.Am
namespace Go.Am
open Go Go.RowKit
def zdz (P : Program) : Nat -> TypeId -> D -> Prop
 | 0, _, _ => False
 | f + 1, t, x => match P.underlying t with
  | some .bool => ∃ b, x = .bool b
  | some (.int k) => ∃ n, x = .int k n /\ (Lit.int k n).wf = true
  | some .string => ∃ l : List Nat, x = .str l /\ l.length <= reachBytes /\ ∀ c ∈ l, c < 256
  | some (.slice e) => ∃ l : List D, x = .sl (P.cellsOf e) l /\ l.length * P.bytesOf e <= reachBytes /\ ∀ y ∈ l, zdz P f e y
  | some (.struct fs) => ∃ l : List D, x = .st l /\ zd9 (fun fd y => zdz P f fd.type y) fs.toList l
  | _ => False
def z2l (P : Program) : Nat -> List Field -> Nat -> Bool
 | off, [], n => off == n
 | off, f :: fs, n => f.offset == off && z2l P (off + P.cellsOf f.type) fs n
structure Plain (P : Program) (S : TypeId -> Prop) : Prop where
 part : ∀ t, S t -> match P.underlying t with
  | some .bool => True
  | some (.int _) => True
  | some .string => True
  | some (.slice e) => S e /\ 0 < P.cellsOf e
  | some (.struct fs) => (∀ f ∈ fs.toList, S f.type) /\ z2l P 0 fs.toList (P.cellsOf t) = true
  | _ => False
def av (N : Nat) (v : Value) : zab := (zzad N v).getD .nilptr
def Has (N : Nat) (cs : List Value) : Prop := ∀ v ∈ cs, zzad N v = some (av N v)
theorem zqz {α : Type} {Q : Nat -> α -> Prop} : ∀ (n : Nat), (∀ i, i < n -> ∃ p, Q i p) -> ∃ l : List α, l.length = n /\ ∀ i p, l[i]? = some p -> Q i p := by
 intro n; induction n with
 | zero => intro _; exact ⟨[], rfl, fun i p h => by simp at h⟩
 | succ n ih =>
  intro h; obtain ⟨l, hl, hq⟩ := ih fun i hi => h i (by omega)
  obtain ⟨p, hp⟩ := h n (by omega)
  refine ⟨l ++ [p], by simp [hl], fun i q hq' => ?_⟩
  by_cases hi : i < n
  ·rw [List.getElem?_append_left (by omega)] at hq'; exact hq i q hq'
  ·rw [yaq (by omega)] at hq'
   have : i - l.length = 0 := by
    cases hz : i - l.length with
    | zero => rfl
    | succ m => rw [hz] at hq'; simp at hq'
   rw [this] at hq'
   simp at hq'
   subst hq'
   have : i = n := by omega
   subst this; exact hp
section
variable {H : Type} {enc : TypeId × Value -> H} {P : Program} {w : World}
theorem zj0 {p : Nat -> Bool} : ∀ {ts : List TypeId} {ds : List (DataW H)}, (DataW.weightsEach P ts ds).all p = true -> ∀ {i : Nat} {t : TypeId} {d : DataW H}, ts[i]? = some t -> ds[i]? = some d -> (DataW.weights P t d).all p = true
 | [], _, _, i, _, _, h1, _ => by simp at h1
 | _ :: _, [], _, i, _, _, _, h2 => by simp at h2
 | t :: ts, d :: ds, h, i, u, e, h1, h2 => by
  rw [DataW.weightsEach, List.all_append, yac] at h
  cases i with
  | zero => simp at h1 h2; subst h1 h2; exact h.1
  | succ i => exact zj0 h.2 (by simpa using h1) (by simpa using h2)
theorem zk9 {p : Nat -> Bool} {e : TypeId} : ∀ {ds : List (DataW H)}, (DataW.weightsAll P e ds).all p = true -> ∀ {i : Nat} {d : DataW H}, ds[i]? = some d -> (DataW.weights P e d).all p = true
 | [], _, i, _, h2 => by simp at h2
 | d :: ds, h, i, x, h2 => by
  rw [DataW.weightsAll, List.all_append, yac] at h
  cases i with
  | zero => simp at h2; subst h2; exact h.1
  | succ i => exact zk9 h.2 (by simpa using h2)
theorem z12 {a : Addr} {n : Nat} {cs : List Value} (h : w.cells? 0 a n = some cs) : cs.length = n /\ (0 < n -> a.spot = none /\ ∃ c t fr, w.heap[a.block]? = some (.cells c t fr) /\ ∀ j, j < n -> c[a.off + j]? = cs[j]?) := by
 unfold World.cells? at h
 rw [if_pos (Nat.zero_le _)] at h
 have hl := mapM_some_length h
 have hg := mapM_some_get h
 simp only [List.length_range] at hl; refine ⟨hl, fun hn => ?_⟩
 have key : ∀ j, j < n -> w.cell? (a.add j) = cs[j]? := fun j hj => hg j j (by simp [hj])
 have h0 := key 0 hn
 have hs0 : ∃ v, cs[0]? = some v := ⟨cs[0]'(by omega), yae (by omega)⟩
 obtain ⟨v0, hv0⟩ := hs0
 rw [hv0] at h0; have e0 : a.add 0 = a := by simp [Addr.add]
 rw [e0] at h0; unfold World.cell? at h0
 cases hb : w.heap[a.block]? with
 | none => rw [hb] at h0; cases h0
 | some o =>
  rw [hb] at h0
  cases o with
  | cells c t fr =>
   simp only [] at h0; split at h0
   ·cases h0
   ·rename_i hsp
    refine ⟨by simpa using hsp, c, t, fr, rfl, fun j hj => ?_⟩
    have := key j hj
    unfold World.cell? at this
    by_cases hj0 : j = 0
    ·subst hj0; rw [hv0, Nat.add_zero]; exact h0
    ·have eb : (a.add j).block = a.block := by unfold Addr.add; rw [if_neg hj0]
     have eo : (a.add j).off = a.off + j := by unfold Addr.add; rw [if_neg hj0]
     have es : (a.add j).spot = none := by unfold Addr.add; rw [if_neg hj0]
     rw [eb, hb] at this; simp only [es, eo, Option.isSome_none, yar, if_false] at this; exact this
  | _ => cases h0
theorem z15 {b : Nat} {c : Array Value} {t : TypeId} {fr : Nat × Nat} (h : w.heap[b]? = some (.cells c t fr)) :
  (zrb w).get (256 + b) = some (.cells (zvy (fun j => (c[j]?).bind (zzad w.heap.size)) c.size) c.size none) := by
 have hb := (yaf.1 h).1
 unfold zrb; rw [zfg, if_pos (by omega), if_neg (by omega), show 256 + b - 256 = b by omega, h]
 rfl
theorem at_old {b off n : Nat} {c : Array Value} {t : TypeId} {fr : Nat × Nat} {cs : List Value} (h : w.heap[b]? = some (.cells c t fr)) (hl : cs.length = n) (hc : ∀ j, j < n -> c[off + j]? = cs[j]?) (hs : Has w.heap.size cs) :
  At (zrb w) (256 + b) off (cs.map (av w.heap.size)) := by
 refine ⟨_, _, _, z15 h, fun j a ha => ?_⟩
 rw [yav] at ha
 cases hj : cs[j]? with
 | none => rw [hj] at ha; cases ha
 | some v =>
  rw [hj] at ha; have hlt : j < n := by rw [<- hl]; exact (yad.1 hj).1
  have h1 := hc j hlt
  rw [hj] at h1; have hsz : off + j < c.size := (yaf.1 h1).1
  rw [zfg, if_pos hsz, h1]; have ha : av w.heap.size v = a := by simpa using ha
  rw [<- ha]; exact hs v (List.mem_of_getElem? hj)
theorem zpo {cs : List Value} : ∀ {fs : List Field} {off : Nat}, z2l P off fs cs.length = true -> (fs.map fun f => (cs.drop f.offset).take (P.cellsOf f.type)).flatten = cs.drop off
 | [], off, h => by simp [z2l] at h; subst h; simp
 | f :: fs, off, h => by
  rw [z2l, yac] at h; obtain ⟨h1, h2⟩ := h
  have h1 : f.offset = off := by simpa using h1
  rw [List.map_cons, List.flatten_cons, zpo h2, h1, <- List.drop_drop, List.take_append_drop]
theorem zzaj {α β : Type} {R : α -> β -> Prop} : ∀ {l : List α} {m : List β}, m.length = l.length -> (∀ (i : Nat) a b, l[i]? = some a -> m[i]? = some b -> R a b) -> zd9 R l m
 | [], [], _, _ => .nil
 | [], _ :: _, h, _ => by simp at h
 | _ :: _, [], h, _ => by simp at h
 | a :: l, b :: m, h, k => .cons (k 0 a b (by simp) (by simp)) (zzaj (by simpa using h) fun i a b h1 h2 => k (i + 1) a b (by simpa using h1) (by simpa using h2))
theorem zzf7 {S : TypeId -> Prop} (hP : Plain P S) (h0 : ∃ c n lo, (zrb w).get 0 = some (.cells c n lo)) :
  ∀ (fuel : Nat) (t : TypeId) (cs : List Value) (x : DataW H × List MemPlace), S t -> DataW.trod enc P w 0 (fun _ => true) true fuel t cs = some x -> (DataW.weights P t x.1).all (· <= reachBytes) = true →
   Has w.heap.size cs /\ ∃ d, RD (zrb w) d (cs.map (av w.heap.size)) /\ zdz P fuel t d := by
 intro fuel; induction fuel with
 | zero => intro t cs x _ h; simp [DataW.trod] at h
 | succ n ih =>
  intro t cs x hS h hw; have hp := hP.part t hS
  have one : ∀ {v : Value} {a : zab}, zzad w.heap.size v = some a -> Has w.heap.size [v] /\ av w.heap.size v = a := by
   intro v a hv; have : av w.heap.size v = a := by unfold av; rw [hv]; rfl
   refine ⟨fun u hu => ?_, this⟩
   simp at hu; subst hu; rw [hv, this]
  cases hu : P.underlying t with
  | none => rw [hu] at hp; exact hp.elim
  | some dt =>
  cases dt with
  | bool =>
   obtain ⟨b, rfl, rfl⟩ := DataW.trod_bool hu h
   obtain ⟨h1, h2⟩ := one (v := .bool b) (a := .bool b) rfl
   exact ⟨h1, .bool b, by rw [zij]; simp [h2], by unfold zdz; rw [hu]; exact ⟨b, rfl⟩⟩
  | int k =>
   obtain ⟨m, rfl, rfl, hwf⟩ := DataW.trod_int hu h
   obtain ⟨h1, h2⟩ := one (v := .int k m) (a := .int k m) rfl
   exact ⟨h1, .int k m, by rw [zgm]; simp [h2], by unfold zdz; rw [hu]; exact ⟨m, rfl, hwf⟩⟩
  | string =>
   obtain ⟨s, rfl, rfl, _⟩ := DataW.trod_string hu h
   obtain ⟨h1, h2⟩ := one (v := .string s) (a := .str (zbm s)) rfl
   refine ⟨h1, .str (zbm s), by rw [zll]; simp [h2], ?_⟩
   unfold zdz; rw [hu]; simp only [DataW.weights, ybh, List.all_nil, Bool.and_true, decide_eq_true_eq] at hw; refine ⟨_, rfl, by unfold zbm; simpa using hw, fun c hc => ?_⟩
   unfold zbm at hc; simp only [List.mem_map] at hc; obtain ⟨u, _, rfl⟩ := hc
   exact UInt8.toNat_lt u
  | slice e =>
   rw [hu] at hp; obtain ⟨hSe, hpos⟩ := hp
   rcases DataW.trod_slice hu h with ⟨rfl, rfl⟩ | ⟨a, len, cap, zho, rest, m, hm, rfl, rfl, _, hlc, _, hel, hE, hR, _⟩
   ·obtain ⟨h1, h2⟩ := one (v := .slice none 0 0) (a := .nilslice) rfl
    refine ⟨h1, .sl (P.cellsOf e) [], by rw [zk6]; exact ⟨_, by simp [h2], [], .inl ⟨rfl, rfl⟩, by rw [RDs]⟩, ?_⟩
    unfold zdz; rw [hu]; exact ⟨[], rfl, by simp, fun y hy => by simp at hy⟩
   ·obtain rfl : n = m := by omega
    simp only [DataW.weights, hu, ybh, yac, List.all_append, decide_eq_true_eq, yag] at hw; obtain ⟨hsz, hwe, hwr⟩ := hw
    by_cases hcap : cap = 0
    ·subst hcap
     obtain rfl : len = 0 := by omega
     obtain ⟨h1, h2⟩ := one (v := .slice (some a) 0 0) (a := .slice 0 0 0 0) (by cases a; rfl)
     refine ⟨h1, .sl (P.cellsOf e) [], ?_, ?_⟩
     ·rw [zk6, List.map_cons, List.map_nil, h2]
      refine ⟨_, rfl, [], .inr ⟨0, 0, 0, rfl, yal _, ?_, fun i cs hi => by simp at hi⟩, by rw [RDs]⟩
      obtain ⟨c, k, lo, hc⟩ := h0
      have := hc
      unfold zrb at this; rw [zfg] at this; split at this
      case isFalse => cases this
      rw [if_pos (by omega)] at this
      cases ho : w.heap[0]? with
      | none => rw [ho] at this; cases this
      | some o =>
       rw [ho] at this
       cases o with
       | cells c' t' fr' =>
        simp only [Option.bind_some, absB] at this
        cases this
        exact ⟨_, _, _, hc, .inl rfl⟩
       | _ => cases this
     ·unfold zdz
      rw [hu]; exact ⟨[], rfl, by simp, fun y hy => by simp at hy⟩
    ·have hr := (hR rfl).1
     have hRr := (hR rfl).2
     have hel1 : ∀ i, i < len -> ∃ p : List Value × D, w.cells? 0 (a.add (i * P.cellsOf e)) (P.cellsOf e) = some p.1 /\ Has w.heap.size p.1 /\ RD (zrb w) p.2 (p.1.map (av w.heap.size)) /\ zdz P n e p.2 := by
      intro i hi; have := hE i hi
      obtain ⟨y, hy⟩ : ∃ y, zho[i]? = some y := ⟨zho[i]'(by omega), yae (by omega)⟩
      rw [hy] at this; simp only [Option.bind_eq_some_iff] at this; obtain ⟨c1, hc1, hy1⟩ := this
      obtain ⟨g1, d, g2, g3⟩ := ih e c1 y hSe hy1 (zk9 hwe (i := i) (by simp [hy]))
      exact ⟨(c1, d), hc1, g1, g2, g3⟩
     obtain ⟨l, hl, hq⟩ := zqz len hel1
     have hfirst : ∃ c1, w.cells? 0 a (P.cellsOf e) = some c1 := by
      by_cases hlen : len = 0
      ·have := hRr 0 (by omega)
       obtain ⟨y, hy⟩ : ∃ y, rest[0]? = some y := ⟨rest[0]'(by omega), yae (by omega)⟩
       rw [hy] at this; simp only [Option.bind_eq_some_iff] at this; obtain ⟨c1, hc1, _⟩ := this
       exact ⟨c1, by simpa [hlen, Addr.add] using hc1⟩
      ·obtain ⟨p, hp, _⟩ := hel1 0 (by omega)
       exact ⟨p.1, by simpa [Addr.add] using hp⟩
     obtain ⟨c1, hc1⟩ := hfirst
     obtain ⟨hspot, c, ct, fr, hblk, _⟩ := (z12 hc1).2 hpos
     have hb : a.block < w.heap.size := (yaf.1 hblk).1
     have hav : zzad w.heap.size (.slice (some a) len cap) = some (.slice (256 + a.block) a.off len cap) := by
      obtain ⟨bb, oo, ss⟩ := a
      simp only at hspot hb
      subst hspot
      cases cap with
      | zero => exact absurd rfl hcap
      | succ cap => unfold zzad; simp only []; rw [if_pos hb]
     obtain ⟨h1, h2⟩ := one hav
     refine ⟨h1, .sl (P.cellsOf e) (l.map (·.2)), ?_, ?_⟩
     ·rw [zk6]
      refine ⟨_, by rw [List.map_cons, List.map_nil, h2], l.map (fun p => p.1.map (av w.heap.size)), .inr ⟨256 + a.block, a.off, cap, by rw [yag, hl], by rw [yag, hl]; exact hlc, ⟨_, _, _, z15 hblk, .inl rfl⟩, fun i cs hi => ?_⟩, ?_⟩
      ·rw [yav] at hi
       cases hli : l[i]? with
       | none => rw [hli] at hi; cases hi
       | some p =>
        rw [hli] at hi; obtain rfl : p.1.map (av w.heap.size) = cs := by simpa using hi
        obtain ⟨k1, k2, k3, k4⟩ := hq i p hli
        obtain ⟨m1, m2⟩ := z12 k1
        obtain ⟨_, c', ct', fr', hb', hcc⟩ := m2 hpos
        have eb : (a.add (i * P.cellsOf e)).block = a.block := by unfold Addr.add; split <;> rfl
        have eo : (a.add (i * P.cellsOf e)).off = a.off + i * P.cellsOf e := by unfold Addr.add; split <;> simp_all
        rw [eb] at hb'
        rw [hblk] at hb'
        cases hb'
        rw [eo] at hcc; exact ⟨by rw [yag]; exact m1, at_old hblk m1 hcc k2⟩
      ·refine RDs.mk (by simp) fun i d cs' h1 h2 => ?_
       rw [yav] at h1 h2
       cases hli : l[i]? with
       | none => rw [hli] at h1; cases h1
       | some p =>
        rw [hli] at h1 h2; obtain rfl : p.2 = d := by simpa using h1
        obtain rfl : p.1.map (av w.heap.size) = cs' := by simpa using h2
        exact (hq i p hli).2.2.1
     ·unfold zdz
      rw [hu]; refine ⟨_, rfl, ?_, fun y hy => ?_⟩
      ·rw [yag, hl, <- hel]
       exact Nat.le_trans (yaj _ (Nat.le_add_right _ _)) hsz
      ·obtain ⟨p, hp, rfl⟩ := List.mem_map.1 hy
       obtain ⟨i, hi⟩ := List.mem_iff_getElem?.1 hp
       exact (hq i p hi).2.2.2
  | struct fs =>
   rw [hu] at hp; obtain ⟨hf, ht⟩ := hp
   obtain ⟨xs, m, hm, rfl, hlen, hxs, hel⟩ := DataW.trod_struct hu h
   obtain rfl : n = m := by omega
   simp only [DataW.weights, hu] at hw; have hel1 : ∀ i, i < fs.toList.length -> ∃ p : D, ∀ f, fs.toList[i]? = some f -> Has w.heap.size ((cs.drop f.offset).take (P.cellsOf f.type)) /\ RD (zrb w) p (((cs.drop f.offset).take (P.cellsOf f.type)).map (av w.heap.size)) /\ zdz P n f.type p := by
    intro i hi; have hi' : i < fs.size := by simpa using hi
    obtain ⟨f, hfi⟩ : ∃ f, fs.toList[i]? = some f := ⟨fs.toList[i], yae hi⟩
    have := hel i f (by simpa using hfi)
    obtain ⟨y, hy⟩ : ∃ y, xs[i]? = some y := ⟨xs[i]'(by omega), yae (by omega)⟩
    rw [hy] at this; obtain ⟨g1, d, g2, g3⟩ := ih f.type _ y (hf f (List.mem_of_getElem? hfi)) this (zj0 hw (i := i) (by rw [yav, hfi]; rfl) (by rw [yav, hy]; rfl))
    refine ⟨d, fun f' hf' => ?_⟩
    rw [hfi] at hf'
    cases hf'
    exact ⟨g1, g2, g3⟩
   obtain ⟨l, hl, hq⟩ := zqz fs.toList.length hel1
   have hfl := zpo (cs := cs) (P := P) (fs := fs.toList) (off := 0) (by rw [hlen]; exact ht)
   rw [List.drop_zero] at hfl; refine ⟨fun v hv => ?_, .st l, ?_, ?_⟩
   ·rw [<- hfl] at hv
    obtain ⟨part, hpart, hv⟩ := List.mem_flatten.1 hv
    obtain ⟨f, hfm, rfl⟩ := List.mem_map.1 hpart
    obtain ⟨i, hi⟩ := List.mem_iff_getElem?.1 hfm
    have hi' : i < fs.toList.length := (yad.1 hi).1
    exact (hq i (l[i]'(by omega)) (yae (by omega)) f hi).1 v hv
   ·rw [zii]
    refine ⟨fs.toList.map (fun f => ((cs.drop f.offset).take (P.cellsOf f.type)).map (av w.heap.size)), ?_, RDs.mk (by simp [hl]) fun i d cs' h1 h2 => ?_⟩
    ·conv => lhs; rw [<- hfl]
     rw [List.map_flatten, List.map_map]; rfl
    ·rw [yav] at h2
     cases hfi : fs.toList[i]? with
     | none => rw [hfi] at h2; cases h2
     | some f =>
      rw [hfi] at h2; obtain rfl := Option.some.inj h2
      exact (hq i d h1 f hfi).2.1
   ·unfold zdz
    rw [hu]; exact ⟨l, rfl, zzaj hl fun i f d h1 h2 => (hq i d h2 f h1).2.2⟩
  | _ => rw [hu] at hp; exact hp.elim
end
end Go.Am
namespace Go.Am
open Go Go.RowKit
structure z19 (P : Program) where
 (b i u8 u16 s limbs whole frac val expr exprs row rows table tables dfn dfns clause clauses plan : TypeId)
 hb : P.underlying b = some .bool
 hi : P.underlying i = some (.int .i64)
 hu8 : P.underlying u8 = some (.int .u8)
 hu16 : P.underlying u16 = some (.int .u16)
 hs : P.underlying s = some .string
 hlimbs : P.underlying limbs = some (.slice u16)
 hexprs : P.underlying exprs = some (.slice expr)
 hrows : P.underlying rows = some (.slice row)
 htables : P.underlying tables = some (.slice table)
 hdfns : P.underlying dfns = some (.slice dfn)
 hclauses : P.underlying clauses = some (.slice clause)
 hwhole : ∃ fs, P.underlying whole = some (.struct fs) /\ fs.toList.map (·.type) = [b, limbs]
 hfrac : ∃ fs, P.underlying frac = some (.struct fs) /\ fs.toList.map (·.type) = [whole, whole]
 hval : ∃ fs, P.underlying val = some (.struct fs) /\ fs.toList.map (·.type) = [u8, frac, i]
 hexpr : ∃ fs, P.underlying expr = some (.struct fs) /\ fs.toList.map (·.type) = [u8, s, val, exprs]
 hrow : ∃ fs, P.underlying row = some (.struct fs) /\ fs.toList.map (·.type) = [i, i, i, frac]
 htable : ∃ fs, P.underlying table = some (.struct fs) /\ fs.toList.map (·.type) = [s, b, rows]
 hdfn : ∃ fs, P.underlying dfn = some (.struct fs) /\ fs.toList.map (·.type) = [s, u8, b]
 hclause : ∃ fs, P.underlying clause = some (.struct fs) /\ fs.toList.map (·.type) = [s, s, i, i, i, b, expr, expr]
 hplan : ∃ fs, P.underlying plan = some (.struct fs) /\ fs.toList.map (·.type) = [s, dfns, tables, clauses]
 cu16 : P.cellsOf u16 = 1
 cexpr : P.cellsOf expr = 9
 crow : P.cellsOf row = 7
 ctable : P.cellsOf table = 3
 cdfn : P.cellsOf dfn = 3
 cclause : P.cellsOf clause = 24
 bytes : 1 <= P.bytesOf u16 /\ 1 <= P.bytesOf expr /\ 1 <= P.bytesOf row /\ 1 <= P.bytesOf table /\ 1 <= P.bytesOf dfn /\ 1 <= P.bytesOf clause
section
variable {P : Program} {f : Nat} {t : TypeId} {x : D}
theorem zj2 (h : zdz P f t x) : ∃ g, f = g + 1 := by
 cases f with
 | zero => exact h.elim
 | succ g => exact ⟨g, rfl⟩
theorem zkq (ht : P.underlying t = some .bool) (h : zdz P f t x) : ∃ b, x = .bool b := by
 obtain ⟨g, rfl⟩ := zj2 h
 unfold zdz at h; rw [ht] at h; exact h
theorem zpl {k : IntKind} (ht : P.underlying t = some (.int k)) (h : zdz P f t x) : ∃ n, x = .int k n /\ (Lit.int k n).wf = true := by
 obtain ⟨g, rfl⟩ := zj2 h
 unfold zdz at h; rw [ht] at h; exact h
theorem zg6 (ht : P.underlying t = some (.int .i64)) (h : zdz P f t x) : ∃ n, x = .int .i64 n /\ i64 n := by
 obtain ⟨n, rfl, hn⟩ := zpl ht h
 simp only [Lit.wf, yac, decide_eq_true_eq] at hn; have h1 : IntKind.i64.min = -9223372036854775808 := rfl
 have h2 : IntKind.i64.max = 9223372036854775807 := rfl
 rw [h1, h2] at hn; exact ⟨n, rfl, hn.1, by omega⟩
theorem ztf (ht : P.underlying t = some (.int .u8)) (h : zdz P f t x) : ∃ n : Nat, x = .int .u8 (n : Int) /\ n < 256 := by
 obtain ⟨n, rfl, hn⟩ := zpl ht h
 simp only [Lit.wf, yac, decide_eq_true_eq] at hn; have h1 : IntKind.u8.min = 0 := rfl
 have h2 : IntKind.u8.max = 255 := rfl
 rw [h1, h2] at hn; exact ⟨n.toNat, by rw [show ((n.toNat : Nat) : Int) = n by omega], by omega⟩
theorem z42 (ht : P.underlying t = some (.int .u16)) (h : zdz P f t x) : ∃ n : Nat, x = .int .u16 (n : Int) /\ n < 65536 := by
 obtain ⟨n, rfl, hn⟩ := zpl ht h
 simp only [Lit.wf, yac, decide_eq_true_eq] at hn; have h1 : IntKind.u16.min = 0 := rfl
 have h2 : IntKind.u16.max = 65535 := rfl
 rw [h1, h2] at hn; exact ⟨n.toNat, by rw [show ((n.toNat : Nat) : Int) = n by omega], by omega⟩
theorem zim (ht : P.underlying t = some .string) (h : zdz P f t x) : ∃ l : List Nat, x = .str l /\ l.length < zgl /\ ∀ c ∈ l, c < 256 := by
 obtain ⟨g, rfl⟩ := zj2 h
 unfold zdz at h; rw [ht] at h; obtain ⟨l, h1, h2, h3⟩ := h
 unfold reachBytes at h2; exact ⟨l, h1, by unfold zgl; omega, h3⟩
theorem zfq {e : TypeId} {sz : Nat} (ht : P.underlying t = some (.slice e)) (hc : P.cellsOf e = sz) (hb : 1 <= P.bytesOf e) (h : zdz P f t x) : ∃ (l : List D) (g : Nat), f = g + 1 /\ x = .sl sz l /\ l.length < zgl /\ ∀ y ∈ l, zdz P g e y := by
 obtain ⟨g, rfl⟩ := zj2 h
 unfold zdz at h; rw [ht] at h; obtain ⟨l, h1, h2, h3⟩ := h
 have : l.length <= l.length * P.bytesOf e := Nat.le_mul_of_pos_right _ hb
 unfold reachBytes at h2; exact ⟨l, g, rfl, by rw [<- hc]; exact h1, by unfold zgl; omega, h3⟩
theorem zd9.ofMap {α β γ : Type} {k : α -> γ} {R : γ -> β -> Prop} : ∀ {l : List α} {m : List β}, zd9 (fun a b => R (k a) b) l m -> zd9 R (l.map k) m
 | [], _, .nil => .nil
 | _ :: _, _ :: _, .cons h r => .cons h (zd9.ofMap r)
theorem zc6 {ts : List TypeId} (ht : ∃ fs, P.underlying t = some (.struct fs) /\ fs.toList.map (·.type) = ts) (h : zdz P f t x) : ∃ (l : List D) (g : Nat), f = g + 1 /\ x = .st l /\ zd9 (fun t y => zdz P g t y) ts l := by
 obtain ⟨fs, ht, rfl⟩ := ht
 obtain ⟨g, rfl⟩ := zj2 h
 unfold zdz at h; rw [ht] at h; obtain ⟨l, h1, h2⟩ := h
 exact ⟨l, g, rfl, h1, zd9.ofMap h2⟩
theorem zd9.cons_inv {α β : Type} {R : α -> β -> Prop} {a : α} {l : List α} {m : List β} (h : zd9 R (a :: l) m) : ∃ b r, m = b :: r /\ R a b /\ zd9 R l r := by
 cases h with
 | cons h1 h2 => exact ⟨_, _, rfl, h1, h2⟩
theorem zd9.nil_inv {α β : Type} {R : α -> β -> Prop} {m : List β} (h : zd9 R ([] : List α) m) : m = [] := by
 cases h; rfl
theorem zfs {α β : Type} {g : α -> β} {Q : α -> Prop} : ∀ {l : List β}, (∀ y ∈ l, ∃ a, y = g a /\ Q a) -> ∃ m : List α, l = m.map g /\ ∀ a ∈ m, Q a
 | [], _ => ⟨[], rfl, fun _ h => by cases h⟩
 | y :: l, h => by
  obtain ⟨a, h1, h2⟩ := h y (by simp)
  obtain ⟨m, h3, h4⟩ := zfs (l := l) fun z hz => h z (yas _ hz)
  exact ⟨a :: m, by simp [h1, h3], fun b hb => by
   rcases yat.1 hb with rfl | hb
   ·exact h2
   ·exact h4 b hb⟩
end
namespace z19
section
variable {P : Program} (A : z19 P) {f : Nat} {x : D}
theorem dWhole (h : zdz P f A.whole x) : ∃ w : zdn, x = w.d /\ w.limbs.length < zgl /\ za6 65536 w.limbs := by
 obtain ⟨l, g, rfl, rfl, k⟩ := zc6 A.hwhole h
 obtain ⟨d1, r, rfl, h1, k⟩ := k.cons_inv
 obtain ⟨d2, r, rfl, h2, k⟩ := k.cons_inv
 obtain rfl := k.nil_inv
 obtain ⟨b, rfl⟩ := zkq A.hb h1
 obtain ⟨l, g, rfl, rfl, hl, hm⟩ := zfq A.hlimbs A.cu16 A.bytes.1 h2
 obtain ⟨m, rfl, hq⟩ := zfs (g := fun n : Nat => D.int .u16 (n : Int)) (Q := fun n => n < 65536) fun y hy => z42 A.hu16 (hm y hy)
 exact ⟨⟨b, m⟩, rfl, by simpa using hl, hq⟩
theorem dFrac (h : zdz P f A.frac x) : ∃ w : zek, x = w.dd /\ w.fit := by
 obtain ⟨l, g, rfl, rfl, k⟩ := zc6 A.hfrac h
 obtain ⟨d1, r, rfl, h1, k⟩ := k.cons_inv
 obtain ⟨d2, r, rfl, h2, k⟩ := k.cons_inv
 obtain rfl := k.nil_inv
 obtain ⟨a, rfl, a1, a2⟩ := A.dWhole h1
 obtain ⟨b, rfl, b1, b2⟩ := A.dWhole h2
 exact ⟨⟨a, b⟩, rfl, ⟨a1, b1⟩, a2, b2⟩
theorem dVal (h : zdz P f A.val x) : ∃ w : zc8, x = w.d /\ w.fit := by
 obtain ⟨l, g, rfl, rfl, k⟩ := zc6 A.hval h
 obtain ⟨d1, r, rfl, h1, k⟩ := k.cons_inv
 obtain ⟨d2, r, rfl, h2, k⟩ := k.cons_inv
 obtain ⟨d3, r, rfl, h3, k⟩ := k.cons_inv
 obtain rfl := k.nil_inv
 obtain ⟨kk, rfl, hk⟩ := ztf A.hu8 h1
 obtain ⟨q, rfl, hq⟩ := A.dFrac h2
 obtain ⟨n, rfl, hn⟩ := zg6 A.hi h3
 exact ⟨⟨kk, q, n⟩, rfl, hk, hq, hn.1, hn.2⟩
theorem z84 : ∀ {l : List zam}, (∀ x ∈ l, x.fit) -> zam.fits l
 | [], _ => by unfold zam.fits; trivial
 | x :: l, h => by unfold zam.fits; exact ⟨h x (by simp), z84 fun y hy => h y (yas _ hy)⟩
theorem dExpr : ∀ (f : Nat) (x : D), zdz P f A.expr x -> ∃ w : zam, x = w.d /\ w.fit := by
 intro f; induction f using Nat.strongRecOn with
 | _ f ih =>
 intro x h; obtain ⟨l, g, rfl, rfl, k⟩ := zc6 A.hexpr h
 obtain ⟨d1, r, rfl, h1, k⟩ := k.cons_inv
 obtain ⟨d2, r, rfl, h2, k⟩ := k.cons_inv
 obtain ⟨d3, r, rfl, h3, k⟩ := k.cons_inv
 obtain ⟨d4, r, rfl, h4, k⟩ := k.cons_inv
 obtain rfl := k.nil_inv
 obtain ⟨kk, rfl, hk⟩ := ztf A.hu8 h1
 obtain ⟨n, rfl, hn, hn'⟩ := zim A.hs h2
 obtain ⟨v, rfl, hv⟩ := A.dVal h3
 obtain ⟨l, g', rfl, rfl, hl, hm⟩ := zfq A.hexprs A.cexpr A.bytes.2.1 h4
 obtain ⟨m, rfl, hq⟩ := zfs (g := zam.d) (Q := zam.fit) fun y hy => ih g' (by omega) y (hm y hy)
 refine ⟨.mk kk n v m, ?_, ?_⟩
 ·rw [zam.d, zam.ds_eq]
 ·unfold zam.fit
  exact ⟨hk, hn, hn', hv, by simpa using hl, z84 hq⟩
theorem dRow (h : zdz P f A.row x) : ∃ w : zhs, x = w.d /\ w.fit := by
 obtain ⟨l, g, rfl, rfl, k⟩ := zc6 A.hrow h
 obtain ⟨d1, r, rfl, h1, k⟩ := k.cons_inv
 obtain ⟨d2, r, rfl, h2, k⟩ := k.cons_inv
 obtain ⟨d3, r, rfl, h3, k⟩ := k.cons_inv
 obtain ⟨d4, r, rfl, h4, k⟩ := k.cons_inv
 obtain rfl := k.nil_inv
 obtain ⟨a, rfl, ha⟩ := zg6 A.hi h1
 obtain ⟨b, rfl, hb⟩ := zg6 A.hi h2
 obtain ⟨c, rfl, hc⟩ := zg6 A.hi h3
 obtain ⟨q, rfl, hq⟩ := A.dFrac h4
 exact ⟨⟨a, b, c, q⟩, rfl, ha, hb, hc, hq⟩
theorem dTable (h : zdz P f A.table x) : ∃ w : zb9, x = w.d /\ w.fit := by
 obtain ⟨l, g, rfl, rfl, k⟩ := zc6 A.htable h
 obtain ⟨d1, r, rfl, h1, k⟩ := k.cons_inv
 obtain ⟨d2, r, rfl, h2, k⟩ := k.cons_inv
 obtain ⟨d3, r, rfl, h3, k⟩ := k.cons_inv
 obtain rfl := k.nil_inv
 obtain ⟨n, rfl, hn, _⟩ := zim A.hs h1
 obtain ⟨b, rfl⟩ := zkq A.hb h2
 obtain ⟨l, g', rfl, rfl, hl, hm⟩ := zfq A.hrows A.crow A.bytes.2.2.1 h3
 obtain ⟨m, rfl, hq⟩ := zfs (g := zhs.d) (Q := zhs.fit) fun y hy => A.dRow (hm y hy)
 exact ⟨⟨n, b, m⟩, rfl, hn, by simpa using hl, hq⟩
theorem dDef (h : zdz P f A.dfn x) : ∃ w : zxk, x = w.d /\ w.fit := by
 obtain ⟨l, g, rfl, rfl, k⟩ := zc6 A.hdfn h
 obtain ⟨d1, r, rfl, h1, k⟩ := k.cons_inv
 obtain ⟨d2, r, rfl, h2, k⟩ := k.cons_inv
 obtain ⟨d3, r, rfl, h3, k⟩ := k.cons_inv
 obtain rfl := k.nil_inv
 obtain ⟨n, rfl, hn, _⟩ := zim A.hs h1
 obtain ⟨kk, rfl, hk⟩ := ztf A.hu8 h2
 obtain ⟨b, rfl⟩ := zkq A.hb h3
 exact ⟨⟨n, kk, b⟩, rfl, hn, hk⟩
theorem dClause (h : zdz P f A.clause x) : ∃ w : za4, x = w.d /\ w.fit := by
 obtain ⟨l, g, rfl, rfl, k⟩ := zc6 A.hclause h
 obtain ⟨d1, r, rfl, h1, k⟩ := k.cons_inv
 obtain ⟨d2, r, rfl, h2, k⟩ := k.cons_inv
 obtain ⟨d3, r, rfl, h3, k⟩ := k.cons_inv
 obtain ⟨d4, r, rfl, h4, k⟩ := k.cons_inv
 obtain ⟨d5, r, rfl, h5, k⟩ := k.cons_inv
 obtain ⟨d6, r, rfl, h6, k⟩ := k.cons_inv
 obtain ⟨d7, r, rfl, h7, k⟩ := k.cons_inv
 obtain ⟨d8, r, rfl, h8, k⟩ := k.cons_inv
 obtain rfl := k.nil_inv
 obtain ⟨n, rfl, hn, _⟩ := zim A.hs h1
 obtain ⟨l, rfl, hl, _⟩ := zim A.hs h2
 obtain ⟨a, rfl, ha⟩ := zg6 A.hi h3
 obtain ⟨b, rfl, hb⟩ := zg6 A.hi h4
 obtain ⟨c, rfl, hc⟩ := zg6 A.hi h5
 obtain ⟨o, rfl⟩ := zkq A.hb h6
 obtain ⟨w, rfl, hw⟩ := A.dExpr _ _ h7
 obtain ⟨v, rfl, hv⟩ := A.dExpr _ _ h8
 exact ⟨⟨n, l, a, b, c, o, w, v⟩, rfl, hn, hl, ha, hb, hc, hw, hv⟩
theorem dPlan (h : zdz P f A.plan x) : ∃ w : zjm, x = w.d /\ w.fit := by
 obtain ⟨l, g, rfl, rfl, k⟩ := zc6 A.hplan h
 obtain ⟨d1, r, rfl, h1, k⟩ := k.cons_inv
 obtain ⟨d2, r, rfl, h2, k⟩ := k.cons_inv
 obtain ⟨d3, r, rfl, h3, k⟩ := k.cons_inv
 obtain ⟨d4, r, rfl, h4, k⟩ := k.cons_inv
 obtain rfl := k.nil_inv
 obtain ⟨n, rfl, hn, _⟩ := zim A.hs h1
 obtain ⟨l2, g2, rfl, rfl, hl2, hm2⟩ := zfq A.hdfns A.cdfn A.bytes.2.2.2.2.1 h2
 obtain ⟨l3, g3, _, rfl, hl3, hm3⟩ := zfq A.htables A.ctable A.bytes.2.2.2.1 h3
 obtain ⟨l4, g4, _, rfl, hl4, hm4⟩ := zfq A.hclauses A.cclause A.bytes.2.2.2.2.2 h4
 obtain ⟨m2, rfl, hq2⟩ := zfs (g := zxk.d) (Q := zxk.fit) fun y hy => A.dDef (hm2 y hy)
 obtain ⟨m3, rfl, hq3⟩ := zfs (g := zb9.d) (Q := zb9.fit) fun y hy => A.dTable (hm3 y hy)
 obtain ⟨m4, rfl, hq4⟩ := zfs (g := za4.d) (Q := za4.fit) fun y hy => A.dClause (hm4 y hy)
 exact ⟨⟨n, m2, m3, m4⟩, rfl, ⟨hn, by simpa using hl2, by simpa using hl3, by simpa using hl4, hq2, hq3, hq4⟩⟩
end
end z19
end Go.Am
namespace Go.Am
open Go Go.RowKit Go.Proofs
section
variable {w : World}
theorem z8w (h : zcy w) : z18 (zrb w) := by
 obtain ⟨t, h⟩ := h.kinds
 have hb := (yaf.1 h).1
 have e : (zrb w).get 0 = some (.cells (zvy (fun j => ((zza5 zd5).toArray[j]?).bind (zzad w.heap.size)) (zza5 zd5).toArray.size) (zza5 zd5).toArray.size none) := by
  unfold zrb; rw [zfg, if_pos (by omega), if_pos (by omega), h]
  rfl
 refine ⟨_, _, _, e, fun j a ha => ?_⟩
 rw [zfg, yax]; have hj : j < zon.length := by
  have := (yad.1 ha).1
  simpa using this
 have hb2 : zon.map zab.str = zd5.map fun b => zab.str (b.map UInt8.toNat) := zvd.symm
 rw [hb2, yav] at ha
 cases hbt : zd5[j]? with
 | none => rw [hbt] at ha; cases ha
 | some b =>
  rw [hbt] at ha; obtain rfl := Option.some.inj ha
  have hlt : j < zd5.length := (yad.1 hbt).1
  rw [if_pos (by simp [zza5]; exact hlt)]
  simp only [zza5, List.getElem?_toArray, yav, hbt, Option.map_some, Option.bind_some, zzad]; simp [zbm]
theorem zzgp {b : Nat} {y : zal} (h : (zrb w).get b = some y) : b < 256 + w.heap.size := by
 unfold zrb at h; rw [zfg] at h; split at h
 ·assumption
 ·cases h
theorem zzg6 {cs : List Value} (h : Has w.heap.size cs) : zbz (muW w) (cs.map (av w.heap.size)) cs := by
 induction cs with
 | nil => exact .nil
 | cons v l ih => exact .cons (z14 (h v (by simp))) (ih fun u hu => h u (yas _ hu))
theorem z2i (hL : zcy w) (f : Nat) (args : List zab) (args' : Array Value) (hp : ∀ [zcm], C19.prims.get f = none) (hl : zbz (muW w) args args'.toList)
  (h : ∀ [zcm], ∃ Q : zaw, Wc C19 F f args (zrb w) Q /\ ∀ v t, Q v t -> v = .bool true) :
  Calls Tryz.prog f args' w fun e w' => e = .returned (.bool true) /\ Below w.heap.size w w' := by
 letI : zcm := ⟨w.heap.size⟩
 obtain ⟨Q, h1, h2⟩ := h
 refine (zzn (H := ⟨256 + w.heap.size, zrb w⟩) (sim19 hL.size) hL zzht hp (yal _) (fun b y hb => zzgp hb) hrelW hl h1).mono fun e w' ⟨v, v', t', μ', g1, g2, g3, g4, g5⟩ => ?_
 have := h2 v t' g4
 subst this; rw [zar] at g3; exact ⟨by rw [g1, g3], g5⟩
theorem zzbu {cs : Array Value} (h : Has w.heap.size cs.toList) : zar (muW w) (.agg (cs.toList.map (av w.heap.size))) (.agg cs) := by
 rw [zar]; exact ⟨cs, rfl, zzg6 h⟩
theorem ends6 (hL : zcy w) {cs : Array Value} {p : zjm} {bits : Nat} (hp : p.fit) (hh : Has w.heap.size cs.toList) (hrd : RD (zrb w) p.d (cs.toList.map (av w.heap.size))) (hb : bits < 18446744073709551616) :
  Calls Tryz.prog 6 #[.agg cs, .int .u64 (bits : Int)] w fun e w' => e = .returned (.bool true) /\ Below w.heap.size w w' :=
 z2i hL 6 [.agg (cs.toList.map (av w.heap.size)), .int .u64 (bits : Int)] _ (by intro _; kernel_rfl) (.cons (zzbu hh) (.single (by rw [zar])))
  ⟨_, zru hp (z8w hL) hrd hb, fun v t h => h.1⟩
end
end Go.Am
namespace Go.Am
open Go Go.RowKit Go.ChangeShapes Go.WideShapes Go.ChangeAt
section
variable {H : Type} {enc : TypeId × Value -> H} {P : Program}
theorem zl6 (hl : laidOutB P = true) {W W' : World} (hb : Below W.heap.size W W') : ∀ {ts : List TypeId} {vs : List Value} {ds : List (DataW H)} {ps : List MemPlace}, (∀ t ∈ ts, P.readableRec t = true /\ t < P.types.size) →
  DataW.TrodAll enc P W 0 (fun _ => true) true ts vs ds ps -> (∀ x ∈ ps, x.block < W.heap.size) -> DataW.TrodAll enc P W' 0 (fun b => decide (b < W.heap.size)) true ts vs ds ps
 | [], [], [], _, _, h, _ => h
 | t :: ts, _ :: _, _ :: _, _, ht, ⟨p, q, h1, h2, e⟩, hs => by
  subst e; exact ⟨p, q, Below.trod hl (ht t (by simp)).1 (ht t (by simp)).2 h1 hb fun x hx => hs x (List.mem_append_left _ hx),
   zl6 hl hb (fun t ht' => ht t (yas _ ht')) h2 fun x hx => hs x (ybg _ hx), rfl⟩
 | [], _ :: _, _, _, _, h, _ => by simp [DataW.TrodAll] at h
 | [], [], _ :: _, _, _, h, _ => by simp [DataW.TrodAll] at h
 | _ :: _, [], _, _, _, h, _ => by simp [DataW.TrodAll] at h
 | _ :: _, _ :: _, [], _, _, h, _ => by simp [DataW.TrodAll] at h
theorem law_post (hl : laidOutB P = true) {f : Func} {s : ChangeSpec} {tb : TypeId} (hp : ∀ t ∈ f.params.toList, P.readableRec t = true /\ t < P.types.size) (hv : s.vars = []) (hres : f.resultTypes = #[tb]) (htb : P.underlying tb = some .bool)
  {W W' : World} {args : Array Value} {ds gs : List (DataW H)} {before : List MemPlace} (hfn : s.fn H ds = { results := [.lit (.bool true)], args := ds })
  (hW : DataW.Whole enc P f.params.toList s.vars false W args.toList ds gs before) (hb : Below W.heap.size W W') :
  s.post enc P f false true false false W args (.bool true) W' := by
 have hW0 := hW
 obtain ⟨p, q, hA, hV, rfl, hfz, hnd⟩ := hW
 rw [hv] at hV; obtain ⟨rfl, rfl⟩ := trodVars_none hV
 refine ⟨ds, [], p ++ [], [], p, [], hW0, ?_, ?_, ?_, hb.frame _, fun h => by cases h⟩
 ·rw [ybe, hfn, hres]
  exact trodAll_mk1 (shut_bool htb _)
 ·rw [ybe, hfn]
  exact zl6 hl hb hp hA fun x hx => hW0.lt x (by simpa using hx)
 ·rw [ybe, hfn, hv]
  exact rfl
theorem z0r {a : Assume} {C : Checked} {os : Os} {f : FuncId} {fn : Func} {s : ChangeSpec} {conds : List PathCond} {apart fresh handsOn again : Bool} {X : World -> Array Value -> Prop}
  (hX : ∀ (w w' : World) (args : Array Value), w.heap = w'.heap -> X w args -> X w' args)
  (own : ownKnob C.prog.godebug = none) (started : os.Started) (noInit : C.prog.inits.idxOf? f = none) (hfn : C.prog.funcs[f]? = some fn)
  (witness : ∃ (w : World) (tape : Tape) (i : Input), w.os = os /\ (w.forCall tape i).Shaped C.prog /\ i.vars = [] /\ Input.okWide C.prog (w.forCall tape i) .any w.heap.size f i ∧
   ((s.pre enc C.prog fn conds apart (w.forCall tape i).memory i.args /\ X (w.forCall tape i).memory i.args) /\ sizedMet enc C.prog fn (OpenSpec.ofChange s) apart (w.forCall tape i).memory i.args) /\ a.holds C.prog (lone (Frame.enter C.prog f i.args .normal) [] (w.forCall tape i)))
  (contract : ∀ (W : World) (base : Nat) (args : Array Value) (ds gs : List (DataW H)) (before : List MemPlace),
   (∀ (j : Nat) t v, fn.params[j]? = some t -> args[j]? = some v -> Value.okWide C.prog W .any base t v) →
   DataW.Whole enc C.prog fn.params.toList s.vars apart W args.toList ds gs before →
   (DataW.weightsEach C.prog (fn.params.toList ++ s.plain.varTypes C.prog) (ds ++ gs)).all (· <= reachBytes) = true -> X W args -> W.ShapedOpen C.prog →
   Calls C.prog f args W fun e W' => ∃ v, e = .returned v /\ s.post enc C.prog fn apart fresh handsOn again W args v W') :
  ReturnsInHanded a C os f .any (fun w args => (s.pre enc C.prog fn conds apart w args /\ X w args) /\ sizedMet enc C.prog fn (OpenSpec.ofChange s) apart w args) (s.post enc C.prog fn apart fresh handsOn again) := by
 refine returnsInHanded_of_calls own started noInit witness ?_
 intro w tape i _ hsh _ hok hpre _; obtain ⟨_, _, _, fn', hfn', _, _, _, _, hval⟩ := hok
 have e : fn' = fn := Option.some.inj (hfn'.symm.trans hfn)
 subst e; obtain ⟨⟨⟨ds, gs, before, hw, hc⟩, hx⟩, hz⟩ := hpre
 have hw' := DataW.Whole.of_heap (w' := w.forCall tape i) (by rfl) hw
 refine (contract (w.forCall tape i) w.heap.size i.args ds gs before hval hw' (hz.weights hw) (hX _ _ _ (by rfl) hx) hsh).mono fun e W' ⟨v, he, hp⟩ => ?_
 subst he; exact ChangeSpec.post_blind hp
variable {w : World} {base : Nat} {spare : Nat -> Bool} {held : Bool} {fuel : Nat} {t e : TypeId} {cs : List Value} {ps : List MemPlace}
theorem zxb {α : Type} {g : α -> DataW H} {u : α -> Value} {l : List α} {n : Nat} (ht : P.underlying t = some (.array n e)) (hc : P.cellsOf e = 1) (hn : P.cellsOf t = n)
  (h1 : ∀ (m : Nat) (c : List Value) (x : DataW H × List MemPlace) (a : α), DataW.trod enc P w base spare held m e c = some x -> x.1 = g a -> c = [u a])
  (h : DataW.trod enc P w base spare held fuel t cs = some (.agg (l.map g), ps)) : cs = l.map u := by
 obtain ⟨xs, m, _, hx, hlen, hxs, hel⟩ := DataW.trod_array ht h
 simp only [Prod.mk.injEq, DataW.agg.injEq] at hx; have hl : l.length = n := by have := congrArg List.length hx.1; simp [hxs] at this; exact this
 rw [hn] at hlen; refine List.ext_getElem (by rw [hlen, yag, hl]) fun i hi1 hi2 => ?_
 have hi : i < n := by omega
 have := hel i hi
 rw [hc] at this; have hc1 : ((cs.drop (i * 1)).take 1) = [cs[i]] := by
  rw [Nat.mul_one, yam hi1]; rfl
 rw [hc1, yae (by omega)] at this
 have hxi : xs[i].1 = g (l[i]'(by omega)) := by
  have := congrArg (fun z => z[i]?) hx.1
  simp only [yav] at this; rw [yae (by omega), yae (by omega)] at this
  simpa using this.symm
 have := h1 m _ _ _ this hxi
 rw [List.getElem_map]; simpa using this
theorem zza6 (he : P.underlying e = some .string) (m : Nat) (c : List Value) (x : DataW H × List MemPlace) (b : List UInt8) (h : DataW.trod enc P w base spare held m e c = some x) (hx : x.1 = .lit (.string b)) : c = [.string ⟨b.toArray⟩] := by
 obtain ⟨s, rfl, rfl, _⟩ := DataW.trod_string he h
 simp at hx; rw [<- hx]
end
theorem joined_of {P : Program} {f : FuncId} {fn : Func} {s : ChangeSpec} {c : OpenClaim}
  (A : (c.wf (OpenSpec.ofChange s) && laidOutB P && mapsRowed P && fn.params.all (P.readableRec ·) && namedTie P c.named s.vars && (c.stops == []) && (P.stops == []) && (c.knobs == []) && (P.stopKnobs == [])) = true)
  (h1 : (c.inPlace == P.inPlace f) = true) (h2 : (c.unfollowed == P.unfollowed f) = true) (h3 : (c.recurses == P.recurses f) = true) (h4 : (c.named == P.varsNamed f) = true)
  (E : ((c.maps == (fn.params.toList ++ s.plain.varTypes P).any (P.mapsRec ·)) && (c.ifaces == (fn.params.toList ++ s.plain.varTypes P).any (P.ifacesRec ·)) && (c.mapsOut == P.mapsAmong fn.resultTypes.toList) &&
   (c.loops == (fn.params.toList ++ s.plain.varTypes P).any (P.loopsFrom ·)) && (c.wideKeys == (fn.params.toList ++ s.plain.varTypes P ++ fn.resultTypes.toList).any (P.wideKeysFrom ·)) &&
   s.vars.all (P.varReadable ·) && fn.resultTypes.all (fun t => P.readableRec t && decide (t < P.types.size)) && (c.ifacesOut == fn.resultTypes.toList.any (P.ifacesRec ·)) && (c.loopsOut == fn.resultTypes.toList.any (P.loopsFrom ·)) && c.shortTexts.isNone) = true)
  (h5 : (c.plainKeys == P.plainKeys) = true) (h6 : P.stopsHeard = true) (h7 : P.mayEnter = true) (h8 : (c.lifted == P.liftsFinal) = true)
  (R : ((P.make == some c.make) && (c.kinds == (if c.domain.isEmpty then [] else fn.params.toList.map fun t => match P.underlying t with | some (.int k) => some k | _ => none)) && (c.pinned == c.pinnedBy) &&
   (c.veiled == (fn.params.toList ++ s.plain.varTypes P ++ fn.resultTypes.toList).any (P.veiledRec ·)) && c.veiledFits P fn.params.toList (fn.params.toList ++ s.plain.varTypes P ++ fn.resultTypes.toList)) = true) :
  joinedFacts P f fn s c = true := by
 unfold joinedFacts; simp only [yac] at A E R ⊢
 obtain ⟨⟨⟨⟨⟨⟨⟨⟨a1, a2⟩, a3⟩, a4⟩, a5⟩, a6⟩, a7⟩, a8⟩, a9⟩ := A
 obtain ⟨⟨⟨⟨⟨⟨⟨⟨⟨e1, e2⟩, e3⟩, e4⟩, e5⟩, e6⟩, e7⟩, e8⟩, e9⟩, e10⟩ := E
 obtain ⟨⟨⟨⟨r1, r2⟩, r3⟩, r4⟩, r5⟩ := R
 exact ⟨⟨⟨⟨⟨⟨⟨⟨⟨⟨⟨⟨⟨⟨⟨⟨⟨⟨⟨⟨⟨⟨⟨⟨⟨⟨⟨⟨⟨⟨⟨a1, a2⟩, a3⟩, a4⟩, a5⟩, a6⟩, a7⟩, a8⟩, a9⟩, h1⟩, h2⟩, h3⟩, h4⟩, e1⟩, e2⟩, e3⟩, e4⟩, e5⟩, e6⟩, e7⟩, e8⟩, e9⟩, h5⟩, e10⟩, h6⟩, h7⟩, h8⟩, r1⟩, r2⟩, r3⟩, r4⟩, r5⟩
end Go.Am
namespace Go.Proofs.YthmbkdkibhffbaaGreatDoor
open Go Go.Am Go.RowKit Go.ChangeShapes Go.WideShapes Go.ChangeAt
theorem own : ownKnob Tryz.prog.godebug = none := by kernel_rfl
theorem laidOut : laidOutB Tryz.prog = true := by kernel_rfl
theorem gPow : Tryz.prog.globalNamed "internal/strconv.uint64pow10" = some 5 := by kernel_rfl
theorem gKinds : Tryz.prog.globalNamed "annuitant/operation.argumentKinds" = some 0 := by kernel_rfl
theorem tPow : (Tryz.prog.globals[5]?).map (·.type) = some 365 := by kernel_rfl
theorem tKinds : (Tryz.prog.globals[0]?).map (·.type) = some 273 := by kernel_rfl
def laid4 : List (String × DataW Unit) := [("math/bits.deBruijn32tab", Rows.laid_math_bits_deBruijn32tab), ("math/bits.deBruijn64tab", Rows.laid_math_bits_deBruijn64tab), ("internal/strconv.uint64pow10", Rows.laid_internal_strconv_uint64pow10), ("annuitant/operation.argumentKinds", Rows.laid_annuitant_operation_argumentKinds)]
theorem door_met (os : Os) (args : Array Value) : laidMetH Tryz.prog laid4 ((World.doorLaid Tryz.prog 60 os).forCall (fun _ _ => 0) ⟨#[], args, []⟩).memory :=
 laidMetH_of_parts3 (fuel := 8) (laidMet_of_run' 8 (by kernel_rfl) (by kernel_rfl)) (by kernel_rfl) (by kernel_rfl)
theorem zu3 {W : World} {n : String} {g : Nat} {cs : Array Value} (hg : Tryz.prog.globalNamed n = some g) (hv : W.var? Tryz.prog n = some cs) (hc : ∃ c t, W.heap[g]? = some (.cells c t (0, 0))) : ∃ t, W.heap[g]? = some (.cells cs t (0, 0)) := by
 obtain ⟨c, t, hc⟩ := hc
 unfold World.var? at hv
 rw [hg] at hv; simp only [Option.bind_some, hc, Option.some.injEq] at hv; subst hv; exact ⟨t, hc⟩
theorem z6i {g n : Nat} {p q : List MemPlace} (h : 0 < n) : MemPlace.cell g 0 ∈ MemPlace.row ⟨g, 0, none⟩ n ++ p ++ q :=
 List.mem_append_left _ (List.mem_append_left _ (List.mem_map.2 ⟨0, List.mem_range.2 h, rfl⟩))
theorem z7y : Rows.laid_annuitant_operation_argumentKinds (H := Unit) = .agg (zd5.map fun b => .lit (.string b)) := by kernel_rfl
theorem zzgu : Rows.laid_internal_strconv_uint64pow10 (H := Unit) = .agg (zlg.map fun n => .lit (.int .u64 n)) := by kernel_rfl
theorem zzav {H : Type} {enc : TypeId × Value -> H} {P : Program} {w : World} {base : Nat} {spare : Nat -> Bool} {held : Bool} {e : TypeId} (he : P.underlying e = some (.int .u64)) (m : Nat) (c : List Value) (x : DataW H × List MemPlace) (n : Int) (h : DataW.trod enc P w base spare held m e c = some x) (hx : x.1 = .lit (.int .u64 n)) : c = [.int .u64 n] := by
 obtain ⟨k, rfl, rfl, _⟩ := DataW.trod_int he h
 simp at hx; rw [hx]
theorem laid_of {W : World} (h : laidMetH Tryz.prog laid4 W) (hsh : W.ShapedOpen Tryz.prog) : zcy W := by
 rw [MakeChecks.laidMetH_plain _ _ _ (by kernel_rfl)] at h
 obtain ⟨ps, ⟨_, _, _, _, _, _, _, _, _, _, ⟨_, _, _, _, _, _, _, _, _, _, ⟨g0, t0, cs0, f0, p0, q0, hg0, ht0, hv0, hd0, ⟨g1, t1, cs1, f1, p1, q1, hg1, ht1, hv1, hd1, _, hp1⟩, hp0⟩, hpb⟩, hpa⟩, _, hcell⟩ := h
 obtain rfl := Option.some.inj (gPow.symm.trans hg0)
 obtain rfl := Option.some.inj (gKinds.symm.trans hg1)
 obtain rfl := Option.some.inj (tPow.symm.trans ht0)
 obtain rfl := Option.some.inj (tKinds.symm.trans ht1)
 have c56 : Tryz.prog.cellsOf 56 = 1 := by kernel_rfl
 have c9 : Tryz.prog.cellsOf 9 = 1 := by kernel_rfl
 have c365 : Tryz.prog.cellsOf 365 = 20 := by kernel_rfl
 have c273 : Tryz.prog.cellsOf 273 = 27 := by kernel_rfl
 rw [zzgu] at hd0; rw [z7y] at hd1; have e0 : cs0.toList = u64s zlg := zxb (l := zlg) (g := fun n => .lit (.int .u64 n)) (u := fun n => .int .u64 n) Tryz.underlying365 c56 c365 (fun m c x a => zzav Tryz.underlying56 m c x a) hd0
 have e1 : cs1.toList = zza5 zd5 := zxb (l := zd5) (g := fun b => .lit (.string b)) (u := fun b => .string ⟨b.toArray⟩) Tryz.underlying273 c9 c273 (fun m c x a => zza6 Tryz.underlying9 m c x a) hd1
 have s0 : cs0 = (u64s zlg).toArray := by rw [<- e0]
 have s1 : cs1 = (zza5 zd5).toArray := by rw [<- e1]
 subst s0 s1
 have m0 : MemPlace.cell 5 0 ∈ ps := by
  rw [hpa, hpb, hp0]; exact ybg _ (ybg _ (z6i (by decide)))
 have m1 : MemPlace.cell 0 0 ∈ ps := by
  rw [hpa, hpb, hp0, hp1]; exact ybg _ (ybg _ (ybg _ (z6i (by decide))))
 exact ⟨zu3 hg1 hv1 (hcell 0 0 m1).1, Tryz.laysM144.s1_3 W hsh, zu3 hg0 hv0 (hcell 5 0 m0).1⟩
theorem stopsHeard : Tryz.prog.stopsHeard = true := by kernel_rfl
theorem mayEnter : Tryz.prog.mayEnter = true := by kernel_rfl
theorem bool4 : Tryz.prog.underlying 4 = some .bool := Tryz.underlying4
def api19 : z19 Tryz.prog := {
 b := 4, i := 3, u8 := 5, u16 := 227, s := 9, limbs := 41, whole := 43, frac := 45, val := 47, expr := 50, exprs := 48, row := 85, rows := 80, table := 82, tables := 23, dfn := 79, dfns := 22, clause := 52, clauses := 24, plan := 26,
 hb := Tryz.underlying4, hi := Tryz.underlying3, hu8 := Tryz.underlying5, hu16 := Tryz.underlying227, hs := Tryz.underlying9, hlimbs := Tryz.underlying41, hexprs := Tryz.underlying48, hrows := Tryz.underlying80, htables := Tryz.underlying23, hdfns := Tryz.underlying22, hclauses := Tryz.underlying24,
 hwhole := ⟨_, Tryz.underlying43, rfl⟩, hfrac := ⟨_, Tryz.underlying45, rfl⟩, hval := ⟨_, Tryz.underlying47, rfl⟩, hexpr := ⟨_, Tryz.underlying50, rfl⟩, hrow := ⟨_, Tryz.underlying85, rfl⟩, htable := ⟨_, Tryz.underlying82, rfl⟩, hdfn := ⟨_, Tryz.underlying79, rfl⟩, hclause := ⟨_, Tryz.underlying52, rfl⟩, hplan := ⟨_, Tryz.underlying26, rfl⟩,
 cu16 := by kernel_rfl, cexpr := by kernel_rfl, crow := by kernel_rfl, ctable := by kernel_rfl, cdfn := by kernel_rfl, cclause := by kernel_rfl,
 bytes := ⟨of_decide_eq_true (by kernel_rfl), of_decide_eq_true (by kernel_rfl), of_decide_eq_true (by kernel_rfl), of_decide_eq_true (by kernel_rfl), of_decide_eq_true (by kernel_rfl), of_decide_eq_true (by kernel_rfl)⟩ }
def z00 : List Nat := [4, 3, 5, 227, 9, 41, 43, 45, 47, 50, 48, 85, 80, 82, 23, 79, 22, 52, 24, 26]
def partB (t : TypeId) : Bool := match Tryz.prog.underlying t with
 | some .bool => true
 | some (.int _) => true
 | some .string => true
 | some (.slice e) => z00.contains e && Nat.blt 0 (Tryz.prog.cellsOf e)
 | some (.struct fs) => fs.toList.all (fun f => z00.contains f.type) && z2l Tryz.prog 0 fs.toList (Tryz.prog.cellsOf t)
 | _ => false
theorem zyk : z00.all partB = true := by kernel_rfl
theorem zzga : Plain Tryz.prog (fun t => t ∈ z00) := ⟨fun t ht => by
 have h := ybc.1 zyk t ht
 unfold partB at h
 cases hu : Tryz.prog.underlying t with
 | none => rw [hu] at h; cases h
 | some d =>
  rw [hu] at h
  cases d with
  | bool => trivial
  | int k => trivial
  | string => trivial
  | slice e =>
   simp only [yac] at h; exact ⟨by simpa using h.1, by simpa using h.2⟩
  | struct fs =>
   simp only [yac] at h; exact ⟨fun f hf => by simpa using ybc.1 h.1 f hf, h.2⟩
  | _ => cases h⟩
theorem open_plan {H : Type} {enc : TypeId × Value -> H} {W : World} {base : Nat} {v : Value} {d : DataW H} {ps : List MemPlace} (hL : zcy W) (hok : Value.okWide Tryz.prog W .any base 26 v) (h : DataW.Trod enc Tryz.prog W 0 (fun _ => true) true 26 v d ps) (hw : (DataW.weights Tryz.prog 26 d).all (· <= reachBytes) = true) :
  ∃ (cs : Array Value) (p : zjm), v = .agg cs /\ p.fit /\ Has W.heap.size cs.toList /\ RD (zrb W) p.d (cs.toList.map (av W.heap.size)) := by
 obtain ⟨cs, rfl, _, _⟩ : ∃ cs, v = .agg cs /\ cs.size = Tryz.prog.cellsOf 26 /\ Row.okWide Tryz.prog W .any base 26 cs := by
  unfold Value.okWide at hok; rw [Tryz.underlying26] at hok; exact hok
 obtain ⟨fuel, h⟩ := h
 obtain ⟨c, n, lo, hc, _⟩ := z8w hL
 obtain ⟨h1, x, h2, h3⟩ := zzf7 zzga ⟨c, n, lo, hc⟩ fuel 26 cs.toList (d, ps) (by decide) h hw
 obtain ⟨p, rfl, hp⟩ := api19.dPlan h3
 exact ⟨cs, p, rfl, hp, h1, h2⟩
theorem u64_nat {n : Int} (h : (Lit.int .u64 n).wf = true) : ∃ b : Nat, n = (b : Int) /\ b < 18446744073709551616 := by
 simp only [Lit.wf, yac, decide_eq_true_eq] at h; have h1 : IntKind.u64.min = 0 := rfl
 have h2 : IntKind.u64.max = 18446744073709551615 := rfl
 rw [h1, h2] at h; exact ⟨n.toNat, by omega, by omega⟩
end Go.Proofs.YthmbkdkibhffbaaGreatDoor
