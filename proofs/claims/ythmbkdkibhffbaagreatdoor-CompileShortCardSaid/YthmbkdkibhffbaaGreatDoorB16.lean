/- Sizes and depths of expressions; bounded plans. -/
import Derived.Lib.ItoaLen
import Derived.Test.YthmbkdkibhffbaaGreatDoorB15
set_option linter.all false
noncomputable section
set_option maxRecDepth 100000
namespace Go.Proofs
open Go Go.Am
variable [zcg]
variable {t : Tr zam}
mutual
/-- parts are counted, up to a limit -/
def zhc : zal -> Nat -> Nat -> Bool × Nat
 | .mk _ _ _ args, deep, c => if 200 < c + 1 then (false, c + 1) else if 24 < deep then (false, c + 1) else zhd args (deep + 1) (c + 1)
def zhd : List zal -> Nat -> Nat -> Bool × Nat
 | [], _, c => (true, c)
 | x :: l, deep, c => if (zhc x deep c).1 = true then zhd l deep (zhc x deep c).2 else (false, (zhc x deep c).2)
end
mutual
theorem zpy : ∀ (x : zal) (deep c : Nat), c <= 200 -> (zhc x deep c).2 <= 201 /\ ((zhc x deep c).1 = true -> (zhc x deep c).2 <= 200)
 | .mk _ _ _ args, deep, c, h => by
  unfold zhc; split
  ·simp; omega
  ·split
   ·simp; omega
   ·exact zvo args (deep + 1) (c + 1) (by omega)
theorem zvo : ∀ (l : List zal) (deep c : Nat), c <= 200 -> (zhd l deep c).2 <= 201 /\ ((zhd l deep c).1 = true -> (zhd l deep c).2 <= 200)
 | [], deep, c, h => by unfold zhd; simp; omega
 | x :: l, deep, c, h => by
  have h1 := zpy x deep c h
  unfold zhd; split
  ·rename_i e
   exact zvo l deep _ (h1.2 e)
  ·simp; omega
end
theorem zo6 {x : zal} {a b c : zab} (ha : zab.one a = true) (hb : zab.one b = true) (hc : zab.one c = true) : zd1 zab.one [.int .u8 x.op, .str x.name, .int .u8 x.v.kind, .bool x.v.f.n.neg, a, .bool x.v.f.d.neg, b, .int .i64 x.v.i, c] = true := by
 rw [zca]; simp only [ybh, List.all_nil, ha, hb, hc]; rfl
theorem zun {l : List zal} {v : zab} (hv : RSl t 9 (l.map zal.d) v) {i : Nat} {x : zal} (hx : l[i]? = some x) :
  ∃ b off a c d, zaf C19 48 v (.int .i64 (i : Int)) = some (.ptr b off) /\ zap C19 50 ⟨0, t⟩ (.ptr b off) = some (.agg (zcq x a c d)) /\ RD t x.d (zcq x a c d) /\ zrd [(.int .u8 0), (.str []), (.int .u8 0), (.bool false), .nilslice, (.bool false), .nilslice, (.int .i64 0), .nilslice] (.agg (zcq x a c d)) = some (cellsOf (zcq x a c d)) ∧
   RSl t 1 (zeb x.v.f.n.limbs) a /\ RSl t 1 (zeb x.v.f.d.limbs) c /\ RSl t 9 (x.args.map zal.d) d := by
 obtain ⟨b, off, cs, g1, g2, _, _, g5⟩ := zj2.at sl48 (by simp) hv (i := i) (d := x.d) (by simp [hx])
 have hz := zko g5 x.zs
 obtain ⟨a, c, d, rfl, h1, h2, h3⟩ := zfa g5
 exact ⟨b, off, a, c, d, g1, g2, g5, hz, h1, h2, h3⟩
section
variable {tf : Tr zam} {c w : Nat}
mutual
theorem z4l : ∀ (x : zal) (deep n : Nat) (cs : List zab) (t : Tr zam) (Q : zav), x.ok -> deep <= 25 -> n <= 200 -> RD tf x.d cs -> TLe tf t -> C19.base <= c -> tf.get c = none -> Cel tf w none [.func (.func 116) [] [.ptr c 0, .ptr w 0]] -> Cel t c none [.int .i64 (n : Int)] →
  (∀ t', Off c t t' -> TLe tf t' -> Cel t' c none [.int .i64 ((zhc x deep n).2 : Int)] -> Q (.bool (zhc x deep n).1) t') -> Wc C19 F 116 [.agg cs, .int .i64 (deep : Int), .ptr c 0, .ptr w 0] t Q
 | .mk op name v args, deep, n, cs, t, Q, hx, hdeep, hn, h, ht, hc, hfc, hw, hcel, hQ => by
  obtain ⟨a, b, d, rfl, ha, hb, hd⟩ := zfa h
  simp only [zal.op, zal.name, zal.v, zal.args] at ha hb hd; have hx' := hx
  unfold zal.ok zgc at hx'; have l0 : zap C19 3 ⟨0, t⟩ (.ptr c 0) = some (.int .i64 (n : Int)) := hcel.load1 ty3 rfl rfl
  obtain ⟨t1, s1, s2, s3⟩ := hcel.store1 (C := C19) hc (j := 0) (v := .int .i64 ((n + 1 : Nat) : Int)) ty3 rfl rfl rfl (by simp)
  have s2 : Cel t1 c none [.int .i64 ((n + 1 : Nat) : Int)] := s2
  have ht1 : TLe tf t1 := ht.off hfc s3
  have l1 : zap C19 3 ⟨0, t1⟩ (.ptr c 0) = some (.int .i64 ((n + 1 : Nat) : Int)) := s2.load1 ty3 rfl rfl
  have e1 : (n : Int) + 1 = ((n + 1 : Nat) : Int) := by omega
  refine w116 _ _ _ _ _ _ _ _ _ _ _ _ ?_
  simp only [t116, wpT]; rw [l0, zaa, zag, zaa, e1, zak (by omega) (by omega)]
  intro m _ _; rw [s1, zaa, l1, zaa, zag, zaa]; simp only [zaw]; unfold zhc at hQ; by_cases h1 : 200 < n + 1
  ·rw [if_pos (by omega)]
   rw [if_pos h1] at hQ; exact hQ t1 s3 ht1 s2
  ·rw [if_neg (by omega)]
   rw [if_neg h1] at hQ; by_cases h2 : 24 < deep
   ·rw [if_pos (by omega)]
    rw [if_pos h2] at hQ; exact hQ t1 s3 ht1 s2
   ·rw [if_neg (by omega)]
    rw [if_neg h2] at hQ; rw [(hd.mono ht1).len, zaa, yag, zag, zaa]
    exact zz5 args args deep (n + 1) d 0 t1 Q hd rfl hx'.2.2.2 hx'.2.2.1 (by omega) (by omega) ht1 hc hfc hw s2 (fun t' k1 k2 k3 => hQ t' (s3.trans k1) k2 k3)
theorem zz5 : ∀ (l args : List zal) (deep n : Nat) (d : zab) (i : Nat) (t : Tr zam) (Q : zav), RSl tf 9 (args.map zal.d) d -> args.drop i = l -> zal.oks l -> args.length < 1125899906842624 -> deep <= 24 -> n <= 200 -> TLe tf t -> C19.base <= c -> tf.get c = none -> Cel tf w none [.func (.func 116) [] [.ptr c 0, .ptr w 0]] -> Cel t c none [.int .i64 (n : Int)] →
  (∀ t', Off c t t' -> TLe tf t' -> Cel t' c none [.int .i64 ((zhd l (deep + 1) n).2 : Int)] -> Q (.bool (zhd l (deep + 1) n).1) t') -> jp 116 2 [.int .i64 (deep : Int), .ptr w 0, d, .int .i64 (args.length : Int), .int .i64 (i : Int)] t Q
 | [], args, deep, n, d, i, t, Q, hd, hl, hok, hsz, hdeep, hn, ht, hc, hfc, hw, hcel, hQ => by
  have := zkj hl
  refine zze4 _ _ _ _ _ ?_
  simp only [z55, wpT, zaw]; rw [if_neg (by omega)]
  unfold zhd at hQ; exact hQ t (Off.refl _ _) ht hcel
 | x :: l, args, deep, n, d, i, t, Q, hd, hl, hok, hsz, hdeep, hn, ht, hc, hfc, hw, hcel, hQ => by
  obtain ⟨h1, h2, h3⟩ := zi2 hl
  have hok' := hok
  unfold zal.oks at hok'; obtain ⟨b', off, a1, b1, c1, g1, g2, g3, g4, g5, g6, g7⟩ := zun (hd.mono ht) h1
  obtain ⟨b2, off2, a2, c2, d2, k1, k2, k3, k4, k5, k6, k7⟩ := zun hd h1
  have e : b' = b2 /\ off = off2 := by rw [g1] at k1; cases k1; (first | exact ⟨rfl, rfl⟩ | exact ⟨rfl, trivial⟩ | trivial)
  obtain ⟨rfl, rfl⟩ := e
  have e2 := zd0 (HA := ⟨0, t⟩) (fun _ _ h => ht _ _ h) k2
  rw [g2] at e2; have e3 : zcq x a1 b1 c1 = zcq x a2 c2 d2 := by cases e2; rfl
  rw [<- e3] at k3; have lw : zap C19 73 ⟨0, t⟩ (.ptr w 0) = some (.func (.func 116) [] [.ptr c 0, .ptr w 0]) := zd0 (H := ⟨0, tf⟩) (fun _ _ h => ht _ _ h) (hw.load1 ty73 rfl rfl)
  have f : ∀ a b, zn3 (.func (.func 116) [] [.ptr c 0, .ptr w 0]) [a, b] = some (116, [a, b, .ptr c 0, .ptr w 0]) := fun _ _ => rfl
  have e1 : (deep : Int) + 1 = ((deep + 1 : Nat) : Int) := by omega
  refine zze4 _ _ _ _ _ ?_
  simp only [z55, wpT, zaw]; rw [if_pos (by omega), g1, zaa, g2, zaa, g4, zaa]
  simp only [zcq, cellsOf, zhu, zc2, zet, zht, yaa, yab]; refine zbn (zo6 g5.one g6.one g7.one) ?_
  rw [lw, zaa, f, zaa, e1, zak (by omega) (by omega), q116]
  have hle := zpy x (deep + 1) n hn
  refine z4l x (deep + 1) n _ t _ hok'.1 (by omega) hn k3 ht hc hfc hw hcel fun t' m1 m2 m3 => ?_
  rw [zaz, zaa]; unfold zhd at hQ
  cases hq : (zhc x (deep + 1) n).1 with
  | false =>
   rw [hq, if_neg (by simp)] at hQ
   simp only [Bool.not_false, if_true]; exact hQ t' m1 m2 m3
  | true =>
   rw [hq, if_pos rfl] at hQ; simp only [Bool.not_true, yar, if_false]; rw [zak (by omega) (by omega), show (i : Int) + 1 = ((i + 1 : Nat) : Int) by omega]
   exact zz5 l args deep _ d (i + 1) t' Q hd h2 hok'.2 hsz hdeep (hle.2 hq) m2 hc hfc hw m3 fun t'' p1 p2 p3 => hQ t'' (m1.trans p1) p2 p3
end
end
def zme (x : zal) : Bool := (zhc x 1 0).1
theorem z0l {x : zal} {cs : List zab} (hx : x.ok) (h : RD t x.d cs) : pvC C19 F 63 [.agg cs] t = some (.bool (zme x)) := by
 obtain ⟨a, b, d, rfl, ha, hb, hd⟩ := zfa h
 refine z21 (w63 _ _ _ _ _ _ _ _ _ ?_)
 simp only [t63, wpT]; intro c hc hcb; obtain ⟨t1, g1, g2, g3, g4⟩ := zm6 (C := C19) ty3 hc
 rw [g1, zaa]; intro m1 _ _; obtain ⟨t2, s1, s2, s3⟩ := g2.store1 (C := C19) hcb (j := 0) (v := .int .i64 ((0 : Nat) : Int)) ty3 rfl rfl rfl (by decide)
 have s1' : zbz C19 3 (.ptr c 0) (.int .i64 0) ⟨m1, t1⟩ = some (zbr, ⟨m1, t2⟩) := s1 m1
 rw [s1', zaa]; intro w hw hwb; have hwc : w ≠ c := by
  intro e; subst e; obtain ⟨x, hx, _⟩ := s2
  rw [hx] at hw; cases hw
 have htw : t.get w = none := by
  cases hq : t.get w with
  | none => rfl
  | some y => have := (g3.off hc s3) _ _ hq; rw [hw] at this; cases this
 obtain ⟨t3, g5, g6, g7, g8⟩ := zm6 (C := C19) ty73 hw
 rw [g5, zaa]; intro m2 _ _; obtain ⟨t4, s4, s5, s6⟩ := g6.store1 (C := C19) hwb (j := 0) (v := .func (.func 116) [] [.ptr c 0, .ptr w 0]) ty73 rfl rfl rfl (by decide)
 have s4' := s4 m2
 rw [s4', zaa]; have s5 : Cel t4 w none [.func (.func 116) [] [.ptr c 0, .ptr w 0]] := s5
 have lw : zap C19 73 ⟨0, t4⟩ (.ptr w 0) = some (.func (.func 116) [] [.ptr c 0, .ptr w 0]) := s5.load1 ty73 rfl rfl
 have f : ∀ a b, zn3 (.func (.func 116) [] [.ptr c 0, .ptr w 0]) [a, b] = some (116, [a, b, .ptr c 0, .ptr w 0]) := fun _ _ => rfl
 rw [lw, zaa, f, zaa, q116]; have hc4 : t4.get c = t2.get c := by rw [s6 c (Ne.symm hwc), g8 c (Ne.symm hwc)]
 have hcel : Cel t4 c none [.int .i64 ((0 : Nat) : Int)] := s2.off hc4
 obtain ⟨blk, hblk, hblk2⟩ := s5
 have htf : TLe t (t.set w (.cells blk 1 none)) := (zdb htw _).1
 have hft : TLe (t.set w (.cells blk 1 none)) t4 := by
  intro k y hk; rw [Tr.get_set] at hk; split at hk
  ·rename_i e; subst e; cases hk; exact hblk
  ·rename_i e
   have hkc : k ≠ c := by intro e'; subst e'; rw [hc] at hk; cases hk
   rw [s6 k e, g8 k e, s3 k hkc, g4 k hkc]; exact hk
 refine z4l (tf := t.set w (.cells blk 1 none)) (c := c) (w := w) x 1 0 _ t4 _ hx (by omega) (by omega) (RD.mono htf _ _ h) hft hcb (by rw [Tr.get_set, if_neg (Ne.symm hwc)]; exact hc) ⟨blk, by rw [Tr.get_set, if_pos rfl]; rfl, hblk2⟩ hcel fun t' k1 k2 k3 => ?_
 rw [zaz, zaa]; exact ⟨rfl, htf.trans k2⟩
end Go.Proofs
namespace Go.Proofs
open Go Go.Am
variable [zcg]
variable {t : Tr zam}
def zfs (x : za2) (a b c a' b' c' : zab) : List zab := [.str x.name, .str x.label, .int .i64 x.from_, .int .i64 x.to, .int .i64 x.known, .bool x.off, .int .u8 x.when_.op, .str x.when_.name, .int .u8 x.when_.v.kind, .bool x.when_.v.f.n.neg, a, .bool x.when_.v.f.d.neg, b, .int .i64 x.when_.v.i, c, .int .u8 x.then_.op, .str x.then_.name, .int .u8 x.then_.v.kind, .bool x.then_.v.f.n.neg, a', .bool x.then_.v.f.d.neg, b', .int .i64 x.then_.v.i, c']
def zte : List zab := [(.str []), (.str []), (.int .i64 0), (.int .i64 0), (.int .i64 0), (.bool false), (.int .u8 0), (.str []), (.int .u8 0), (.bool false), .nilslice, (.bool false), .nilslice, (.int .i64 0), .nilslice, (.int .u8 0), (.str []), (.int .u8 0), (.bool false), .nilslice, (.bool false), .nilslice, (.int .i64 0), .nilslice]
theorem z25 {x : za2} {a b c a' b' c' : zab} (ha : zab.one a = true) (hb : zab.one b = true) (hc : zab.one c = true) (ha' : zab.one a' = true) (hb' : zab.one b' = true) (hc' : zab.one c' = true) : zd1 zab.one (zfs x a b c a' b' c') = true := by
 rw [zca]; simp only [zfs, ybh, List.all_nil, ha, hb, hc, ha', hb', hc']; rfl
theorem zq1 {l : List za2} {v : zab} (hv : RSl t 24 (l.map za2.d) v) {i : Nat} {x : za2} (hx : l[i]? = some x) :
  ∃ p off a b c a' b' c', zaf C19 24 v (.int .i64 (i : Int)) = some (.ptr p off) /\ zap C19 52 ⟨0, t⟩ (.ptr p off) = some (.agg (zfs x a b c a' b' c')) /\ zrd zte (.agg (zfs x a b c a' b' c')) = some (cellsOf (zfs x a b c a' b' c')) ∧
   RD t x.when_.d (zcq x.when_ a b c) /\ RD t x.then_.d (zcq x.then_ a' b' c') /\ zd1 zab.one (zfs x a b c a' b' c') = true := by
 obtain ⟨p, off, cs, g1, g2, _, _, g5⟩ := zj2.at sl24 (by simp) hv (i := i) (d := x.d) (by simp [hx])
 have hz := zko g5 x.zs
 obtain ⟨a, b, c, a', b', c', rfl, h1, h2⟩ := zmj g5
 obtain ⟨u1, u2, u3, e1, m1, m2, m3⟩ := zfa h1
 obtain ⟨w1, w2, w3, e2, n1, n2, n3⟩ := zfa h2
 unfold zcq at e1 e2
 cases e1
 cases e2
 exact ⟨p, off, _, _, _, _, _, _, g1, g2, hz, h1, h2, z25 m1.one m2.one m3.one n1.one n2.one n3.one⟩
def zf1 (c : za2) : Bool := zme c.when_ && zme c.then_
def zfk (p : zi7) : Bool := decide (p.defs.length <= 64) && decide (p.clauses.length <= 400) && decide (p.tables.length <= 16) && p.clauses.all zf1 && p.tables.all zld
theorem zx8 {l : List zb8} {v : zab} (hv : RSl t 3 (l.map zb8.d) v) (hn : l.length < 1125899906842624) (hf : ∀ x ∈ l, x.fit) : ∀ (k i : Nat), i + k = l.length -> jp 33 6 [v, .int .i64 (l.length : Int), .int .i64 (i : Int)] t (fun r m => r = .bool ((l.drop i).all zld) /\ m = t) := by
 intro k; induction k with
 | zero =>
  intro i hi; refine j33_6 _ _ _ ?_
  simp only [zzfy, wpT, zaw]; rw [if_neg (by omega), yau (by omega)]
  (first | exact ⟨rfl, rfl⟩ | exact ⟨rfl, trivial⟩ | trivial)
 | succ k ih =>
  intro i hi; have h1 : i < l.length := by omega
  obtain ⟨b, off, cs, g1, g2, _, _, g5⟩ := zj2.at sl23 (by simp) hv (i := i) (d := l[i].d) (by simp [yae h1])
  have hz := zko g5 (zb8.zs _)
  obtain ⟨a, rfl, ha⟩ := zo4 g5
  have hfit := hf _ (List.getElem_mem h1)
  have hone : zd1 zab.one [.str l[i].name, .bool l[i].two, a] = true := by rw [zca]; simp only [ybh, List.all_nil, ha.one]; rfl
  refine j33_6 _ _ _ ?_
  simp only [zzfy, wpT, zaw]; rw [if_pos (by omega), g1, zaa, g2, zxz, zaa, hz, zaa]
  simp only [cellsOf, zht, zc2, zet, yaa, yab]; refine zbn hone ?_
  rw [q64, z4n ha hfit.2.1 hfit.1 (fun r hr => (hfit.2.2 r hr).2.2.2), zaa, zaz, zaa, yam h1, ybh]
  cases hq : zld l[i] with
  | false => simp
  | true =>
   simp only [Bool.not_true, yar, if_false, Bool.true_and]; rw [zak (by omega) (by omega)]
   exact ih (i + 1) (by omega)
theorem zw6 {p : zi7} {l : List za2} {v a b : zab} (hp : l = p.clauses) (hv : RSl t 24 (l.map za2.d) v) (hb : RSl t 3 (p.tables.map zb8.d) b) (hn : l.length < 1125899906842624) (hnt : p.tables.length < 1125899906842624) (hf : ∀ x ∈ l, x.fit) (hft : ∀ x ∈ p.tables, x.fit) : ∀ (k i : Nat), i + k = l.length -> jp 33 2 [v, .int .i64 (l.length : Int), .int .i64 (i : Int), .str p.name, a, b, v] t (fun r m => r = .bool ((l.drop i).all zf1 && p.tables.all zld) /\ m = t) := by
 intro k; induction k with
 | zero =>
  intro i hi; refine j33_2 _ _ _ _ _ _ _ ?_
  simp only [zzfz, wpT, zaw]; rw [if_neg (by omega), yau (by omega), hb.len, zaa, yag, zag, zaa]
  have := zx8 hb hnt hft p.tables.length 0 (by omega)
  rw [List.drop_zero] at this; exact this
 | succ k ih =>
  intro i hi; have h1 : i < l.length := by omega
  obtain ⟨q, off, u1, u2, u3, w1, w2, w3, g1, g2, g3, g4, g5, g6⟩ := zq1 hv (yae h1)
  have hfit := hf _ (List.getElem_mem h1)
  refine j33_2 _ _ _ _ _ _ _ ?_
  simp only [zzfz, wpT, zaw]; unfold zte at g3; rw [if_pos (by omega), g1, zaa, g2, zaa, g3, zaa]
  unfold zfs at g6; simp only [zfs, cellsOf, zhu, zht, zc2, zet, yaa, yab]; have s1 := z0l (zal.fit_ok hfit.2.2.2.2.2.1) g4
  have s2 := z0l (zal.fit_ok hfit.2.2.2.2.2.2) g5
  unfold zcq at s1 s2; refine zbn g6 ?_
  rw [q63, s1, zaa, zaz, zaa, q63, s2, zaa, zaz, zaa, yam h1, ybh]; have e : zf1 l[i] = (zme l[i].when_ && zme l[i].then_) := rfl
  rw [e]
  cases hq : zme l[i].when_ with
  | false => simp
  | true =>
   cases hq2 : zme l[i].then_ with
   | false => simp
   | true =>
    simp only [Bool.not_true, yar, if_false, Bool.true_and]; rw [zak (by omega) (by omega)]
    exact ih (i + 1) (by omega)
theorem z31 {p : zi7} {cs : List zab} (hp : p.fit) (h : RD t p.d cs) : pvC C19 F 33 [.agg cs] t = some (.bool (zfk p)) := by
 obtain ⟨a, b, c, rfl, ha, hb, hc⟩ := zp8 h
 obtain ⟨p1, p2, p3, p4, p5, p6, p7⟩ := hp
 unfold zgc at p1 p2 p3 p4; refine zbj.2 (w33 _ _ _ _ ?_)
 simp only [t33, wpT, ha.len, hb.len, hc.len, zaa, zag, yag, zaw]; unfold zfk; by_cases h1 : p.defs.length <= 64
 ·rw [if_neg (by omega)]
  by_cases h2 : p.clauses.length <= 400
  ·rw [if_neg (by omega)]
   by_cases h3 : p.tables.length <= 16
   ·rw [if_neg (by omega)]
    simp only [h1, h2, h3, decide_true, Bool.true_and]; have := zw6 (a := a) rfl hc hb (by omega) (by omega) p7 p6 p.clauses.length 0 (by omega)
    rw [List.drop_zero] at this; exact this
   ·rw [if_pos (by omega)]; simp [h3]
  ·rw [if_pos (by omega)]; simp [h2]
 ·rw [if_pos (by omega)]; simp [h1]
end Go.Proofs
namespace Go.Am
structure XIns where
 op : Nat
 a : Int
 b : Int
def zsx (k : List Nat) : List (List Nat) -> Nat
 | [] => 0
 | x :: l => if k = x then 0 else zsx k l + 1
theorem zua {k : List Nat} : ∀ {l : List (List Nat)}, k ∉ l -> zsx k l = l.length
 | [], _ => rfl
 | x :: l, h => by
  unfold zsx; have h1 : k ≠ x := fun e => h (by rw [e]; exact yaz)
  rw [if_neg h1, zua (fun m => h (yas _ m))]; rfl
structure Nt where
 names : List (List Nat)
 consts : List zc3
section
variable (key : zc3 -> List Nat) (valid : zc3 -> Bool)
def Nt.name (s : Nt) (n : List Nat) : Nt := if n ∈ s.names then s else ⟨s.names ++ [n], s.consts⟩
def Nt.const (s : Nt) (v : zc3) : Nt := if key v ∈ s.consts.map key then s else ⟨s.names, s.consts ++ [v]⟩
def Nt.nameI (s : Nt) (n : List Nat) : Nat := zsx n s.names
def Nt.constI (s : Nt) (v : zc3) : Nat := zsx (key v) (s.consts.map key)
def zrc (op : Nat) : Int × Int :=
 if op = 1 \/ op = 2 then (0, 0) else if op = 5 then (1, 1) else if op = 6 then (1, 2) else if op = 15 \/ op = 16 then (2, 2) else if op = 18 then (3, 3)
 else if op = 3 \/ op = 4 \/ op = 17 \/ op = 24 \/ op = 25 \/ op = 26 then (1, 1)
 else if (7 <= op /\ op <= 14) \/ op = 19 \/ op = 20 \/ op = 21 \/ op = 23 then (2, 2) else if op = 22 then (3, 3) else (1, 0)
def zds (op : Nat) (v : zc3) (n : Nat) : Bool := (decide (op ≠ 1) || valid v) && decide ((zrc op).1 <= n) && decide ((n : Int) <= (zrc op).2)
def zew (op : Nat) (name : List Nat) (v : zc3) (n : Nat) (s : Nt) : Nt × XIns :=
 if op = 1 then (s.const key v, ⟨1, s.constI key v, 0⟩)
 else if op = 2 then (s, ⟨2, 0, 0⟩)
 else if op = 3 \/ op = 4 \/ op = 5 then (s.name name, ⟨op, s.nameI name, 0⟩)
 else if op = 6 then (s.name name, ⟨6, s.nameI name, n⟩)
 else if op = 21 \/ op = 22 \/ op = 23 then (s.name name, ⟨8, s.nameI name, op⟩)
 else if op = 19 then (s, ⟨7, 19, v.i⟩)
 else (s, ⟨7, op, 0⟩)
abbrev Tr1 := Nt -> Nat -> Nt × List XIns
def zf4 (n : Int) : zc3 := ⟨1, ⟨⟨false, []⟩, ⟨false, []⟩⟩, n⟩
def zo1 (f g : Tr1) (skip : Nat) (truth : Int) : Tr1 := fun s p =>
 ((g (f s p).1 (p + (f s p).2.length + 1)).1.const key (zf4 truth),
  (f s p).2 ++ ⟨skip, ((p + (f s p).2.length + 1 + (g (f s p).1 (p + (f s p).2.length + 1)).2.length + 2 : Nat) : Int), 0⟩ ::
   ((g (f s p).1 (p + (f s p).2.length + 1)).2 ++ [⟨12, 0, 0⟩, ⟨9, ((p + (f s p).2.length + 1 + (g (f s p).1 (p + (f s p).2.length + 1)).2.length + 3 : Nat) : Int), 0⟩, ⟨1, (g (f s p).1 (p + (f s p).2.length + 1)).1.constI key (zf4 truth), 0⟩]))
def ifT (f g h : Tr1) : Tr1 := fun s p =>
 ((h (g (f s p).1 (p + (f s p).2.length + 1)).1 (p + (f s p).2.length + 1 + (g (f s p).1 (p + (f s p).2.length + 1)).2.length + 1)).1,
  (f s p).2 ++ ⟨10, ((p + (f s p).2.length + 1 + (g (f s p).1 (p + (f s p).2.length + 1)).2.length + 1 : Nat) : Int), 0⟩ ::
   ((g (f s p).1 (p + (f s p).2.length + 1)).2 ++ ⟨9, ((p + (f s p).2.length + 1 + (g (f s p).1 (p + (f s p).2.length + 1)).2.length + 1 + (h (g (f s p).1 (p + (f s p).2.length + 1)).1 (p + (f s p).2.length + 1 + (g (f s p).1 (p + (f s p).2.length + 1)).2.length + 1)).2.length : Nat) : Int), 0⟩ ::
    (h (g (f s p).1 (p + (f s p).2.length + 1)).1 (p + (f s p).2.length + 1 + (g (f s p).1 (p + (f s p).2.length + 1)).2.length + 1)).2))
def zi8 : List Tr1 -> Tr1
 | [], s, _ => (s, [])
 | f :: l, s, p => ((zi8 l (f s p).1 (p + (f s p).2.length)).1, (f s p).2 ++ (zi8 l (f s p).1 (p + (f s p).2.length)).2)
def zq6 (op : Nat) (name : List Nat) (v : zc3) (fs : List Tr1) : Tr1 := fun s p =>
 if zds valid op v fs.length = false then (s, [⟨13, 0, 0⟩])
 else if op = 15 then (match fs with | f :: g :: _ => zo1 key f g 10 0 s p | _ => (s, []))
 else if op = 16 then (match fs with | f :: g :: _ => zo1 key f g 11 1 s p | _ => (s, []))
 else if op = 18 then (match fs with | f :: g :: h :: _ => ifT f g h s p | _ => (s, []))
 else ((zew key op name v fs.length (zi8 fs s p).1).1, (zi8 fs s p).2 ++ [(zew key op name v fs.length (zi8 fs s p).1).2])
mutual
def trX : zal -> Tr1
 | .mk op name v args => zq6 key valid op name v (trF args)
def trF : List zal -> List Tr1
 | [] => []
 | x :: l => trX x :: trF l
end
theorem zto : ∀ l : List zal, (trF key valid l).length = l.length
 | [] => rfl
 | x :: l => by simp [trF, zto l]
def trC : List za2 -> Nt -> Nt × List (List XIns × List XIns)
 | [], s => (s, [])
 | c :: l, s => ((trC l (trX key valid c.then_ (trX key valid c.when_ s 0).1 0).1).1, ((trX key valid c.when_ s 0).2, (trX key valid c.then_ (trX key valid c.when_ s 0).1 0).2) :: (trC l (trX key valid c.then_ (trX key valid c.when_ s 0).1 0).1).2)
end
def zf6 (i : XIns) : Int :=
 if i.op = 3 \/ i.op = 4 \/ i.op = 5 \/ i.op = 12 then 1
 else if i.op = 6 then i.b
 else if i.op = 7 then (if i.a % 256 = 17 \/ i.a % 256 = 24 \/ i.a % 256 = 25 \/ i.a % 256 = 26 then 1 else 2)
 else if i.op = 8 then (if i.b = 22 then 3 else 2)
 else 0
inductive Stp (code : List XIns) (bit : Nat -> Bool) : Nat -> Int -> Nat -> Int -> Prop
 | jump {p q : Nat} {d : Int} {i : XIns} : code[p]? = some i -> i.op = 9 -> i.a = (q : Int) -> p < q -> q <= code.length -> Stp code bit p d q d
 | cond {p q : Nat} {d : Int} {i : XIns} : code[p]? = some i -> (i.op = 10 \/ i.op = 11) -> (if bit p = true then i.a else (p : Int) + 1) = (q : Int) -> p < q -> q <= code.length -> 1 <= d -> Stp code bit p d q (d - 1)
 | op {p : Nat} {d : Int} {i : XIns} : code[p]? = some i -> i.op < 9 \/ (11 < i.op /\ i.op < 255) -> zf6 i <= d -> Stp code bit p d (p + 1) (d + (1 - zf6 i))
inductive Way (code : List XIns) (bit : Nat -> Bool) : Nat -> Int -> Nat -> Int -> Prop
 | nil {p : Nat} {d : Int} : Way code bit p d p d
 | cons {p q r : Nat} {d e f : Int} : Stp code bit p d q e -> Way code bit q e r f -> Way code bit p d r f
section
variable {key : zc3 -> List Nat} {valid : zc3 -> Bool} {code : List XIns} {bit : Nat -> Bool}
theorem zzgb {op n : Nat} {name : List Nat} {v : zc3} {s : Nt} (h : zds valid op v n = true) (h15 : op ≠ 15) (h16 : op ≠ 16) (h18 : op ≠ 18) (hop : op < 256) : zf6 (zew key op name v n s).2 = n /\ ((zew key op name v n s).2.op < 9 \/ 11 < (zew key op name v n s).2.op /\ (zew key op name v n s).2.op < 255) := by
 unfold zds at h; simp only [yac, decide_eq_true_eq] at h; obtain ⟨⟨_, h1⟩, h2⟩ := h
 unfold zrc at h1 h2; unfold zew; by_cases c1 : op = 1
 ·subst c1; simp at h1 h2; subst h2; simp [zf6]
 ·rw [if_neg c1]
  by_cases c2 : op = 2
  ·subst c2; simp at h1 h2; subst h2; simp [zf6]
  ·rw [if_neg c2]
   rw [if_neg (by omega)] at h1 h2
   by_cases c3 : op = 3 \/ op = 4 \/ op = 5
   ·rw [if_pos c3]
    have hn : (n : Int) = 1 := by
     rcases c3 with e | e | e <;> subst e <;> simp at h1 h2 <;> omega
    refine ⟨?_, .inl (by simp; omega)⟩
    simp only [zf6]; rw [if_pos (by omega), hn]
   ·rw [if_neg c3]
    by_cases c6 : op = 6
    ·subst c6; simp [zf6]
    ·rw [if_neg c6]
     rw [if_neg (by omega), if_neg c6, if_neg (by omega), if_neg (by omega)] at h1 h2
     by_cases c8 : op = 21 \/ op = 22 \/ op = 23
     ·rw [if_pos c8]
      rw [if_neg (by omega)] at h1 h2
      refine ⟨?_, .inl (by simp)⟩
      simp only [zf6]; rw [if_neg (by omega), if_neg (by omega), if_neg (by omega), if_pos trivial]
      by_cases c22 : op = 22
      ·rw [if_neg (by omega), if_pos c22] at h1 h2
       rw [if_pos (by omega)]; simp at h1 h2; omega
      ·rw [if_pos (by omega)] at h1 h2
       rw [if_neg (by omega)]; simp at h1 h2; omega
     ·rw [if_neg c8]
      by_cases c19 : op = 19
      ·rw [if_pos c19]
       subst c19; simp at h1 h2; simp [zf6]; omega
      ·rw [if_neg c19]
       refine ⟨?_, .inl (by simp)⟩
       simp only [zf6]; rw [if_neg (by omega), if_neg (by omega), if_pos trivial]
       by_cases ca : op = 17 \/ op = 24 \/ op = 25 \/ op = 26
       ·rw [if_pos (by omega)] at h1 h2
        rw [if_pos (by omega)]; simp at h1 h2; omega
       ·rw [if_neg (by omega)] at h1 h2
        rw [if_neg (by omega)]
        by_cases cb : (7 <= op /\ op <= 14) \/ op = 19 \/ op = 20 \/ op = 21 \/ op = 23
        ·rw [if_pos cb] at h1 h2; simp at h1 h2; omega
        ·rw [if_neg cb, if_neg (by omega)] at h1 h2; simp at h1 h2; omega
end
end Go.Am
namespace Go.Am
open Go Go.RowKit
structure Thg where
 blks : List Nat
 ok : Tr zam -> Tr zam -> Prop
 keep : ∀ {tf t tf' t' : Tr zam}, ok tf t -> TLe tf tf' -> (∀ k ∈ blks, t'.get k = t.get k /\ tf'.get k = none) -> ok tf' t'
 live : ∀ {tf t : Tr zam}, ok tf t -> ∀ k ∈ blks, ∃ y, t.get k = some y
structure Objs (base : Nat) (tf t : Tr zam) (l : List Thg) : Prop where
 tle : TLe tf t
 nodup : (l.flatMap Thg.blks).Nodup
 ok : ∀ o ∈ l, o.ok tf t
 low : ∀ k ∈ l.flatMap Thg.blks, base <= k /\ tf.get k = none
def zjx (v : zab) : List Nat := match v with | .slice b _ _ _ => [b] | _ => []
theorem zgx {v : zab} {k : Nat} : k ∈ zjx v ↔ zrx v k := by
 unfold zjx zrx; split
 ·rename_i b o n c
  constructor
  ·intro h; rw [List.mem_singleton] at h; subst h; exact ⟨_, _, _, rfl⟩
  ·rintro ⟨o', n', c', e⟩; cases e; simp
 ·rename_i h
  constructor
  ·intro h; cases h
  ·rintro ⟨o, n, c, e⟩; exact absurd e (h _ _ _ _)
def zfm (b : Nat) (lo : Option Nat) (cs : List zab) : Thg where
 blks := [b]
 ok := fun _ t => Cel t b lo cs
 keep := fun h _ k => h.off (k b (by simp)).1
 live := fun h k hk => by rw [List.mem_singleton] at hk; subst hk; obtain ⟨c, hc, _⟩ := h; exact ⟨_, hc⟩
def zfv (b : Nat) (l : List (zab × zab)) : Thg where
 blks := [b]
 ok := fun _ t => t.get b = some (.map l)
 keep := fun h _ k => by rw [(k b (by simp)).1]; exact h
 live := fun h k hk => by rw [List.mem_singleton] at hk; subst hk; exact ⟨_, h⟩
def zat (base sz : Nat) (l : List D) (v : zab) : Thg where
 blks := zjx v
 ok := fun tf t => Loose base tf t sz l v
 keep := fun h hf k => h.keep hf fun b hb => k b (zgx.2 hb)
 live := fun h k hk => (h.none (zgx.1 hk)).2.2
section
variable {base : Nat} {tf t : Tr zam} {l A B : List Thg} {o o' : Thg}
theorem Objs.live (h : Objs base tf t l) {k : Nat} (hk : k ∈ l.flatMap Thg.blks) : ∃ y, t.get k = some y := by
 obtain ⟨o, ho, hk⟩ := List.mem_flatMap.1 hk
 exact o.live (h.ok o ho) k hk
theorem Objs.fresh (h : Objs base tf t l) {n : Nat} (hn : t.get n = none) : n ∉ l.flatMap Thg.blks := by
 intro hm; obtain ⟨y, hy⟩ := h.live hm
 rw [hn] at hy; cases hy
theorem Objs.tfn (h : Objs base tf t l) {n : Nat} (hn : t.get n = none) : tf.get n = none := by
 cases hq : tf.get n with
 | none => rfl
 | some y => have := h.tle _ _ hq; rw [hn] at this; cases this
theorem Objs.keep (h : Objs base tf t l) {tf' t' : Tr zam} (hf : TLe tf tf') (ht : TLe tf' t') (hk : ∀ k ∈ l.flatMap Thg.blks, t'.get k = t.get k /\ tf'.get k = none) : Objs base tf' t' l :=
 ⟨ht, h.nodup, fun o ho => o.keep (h.ok o ho) hf fun k hk' => hk k (List.mem_flatMap.2 ⟨o, ho, hk'⟩), fun k hk' => ⟨(h.low k hk').1, (hk k hk').2⟩⟩
theorem Objs.junk (h : Objs base tf t l) {n : Nat} {t' : Tr zam} (hn : t.get n = none) (ho : Off n t t') : Objs base tf t' l :=
 h.keep (TLe.refl _) (h.tle.off (h.tfn hn) ho) fun k hk => ⟨ho k (fun e : k = n => h.fresh hn (e ▸ hk)), (h.low k hk).2⟩
theorem Objs.other (h : Objs base tf t l) {n : Nat} {t' : Tr zam} (hn : n ∉ l.flatMap Thg.blks) (hf : tf.get n = none) (ho : Off n t t') : Objs base tf t' l :=
 h.keep (TLe.refl _) (h.tle.off hf ho) fun k hk => ⟨ho k (fun e : k = n => hn (e ▸ hk)), (h.low k hk).2⟩
theorem Objs.froze (h : Objs base tf t l) {n : Nat} {y : zam} (hn : n ∉ l.flatMap Thg.blks) (hy : t.get n = some y) (hf : tf.get n = none) : Objs base (tf.set n y) t l /\ TLe tf (tf.set n y) := by
 have h1 := (zdb (t := tf) hf y).1
 refine ⟨h.keep h1 (fun k u hk => ?_) fun k hk => ⟨rfl, ?_⟩, h1⟩
 ·rw [Tr.get_set] at hk
  split at hk
  ·rename_i e; subst e; cases hk; exact hy
  ·exact h.tle _ _ hk
 ·rw [Tr.get_set, if_neg (fun e : k = n => hn (e ▸ hk))]; exact (h.low k hk).2
theorem zh9 : (A ++ o :: B).flatMap Thg.blks = A.flatMap Thg.blks ++ (o.blks ++ B.flatMap Thg.blks) := by simp
theorem Objs.upd (h : Objs base tf t (A ++ o :: B)) {t' : Tr zam} (hk : ∀ k, k ∉ o.blks -> k ∉ o'.blks -> t'.get k = t.get k) (hn : ∀ k ∈ o'.blks, k ∈ o.blks \/ (t.get k = none /\ base <= k)) (hok : o'.ok tf t') (hnd : o'.blks.Nodup) (ht : TLe tf t') : Objs base tf t' (A ++ o' :: B) := by
 have hd := h.nodup
 rw [zh9] at hd; rw [List.nodup_append] at hd; obtain ⟨d1, d2, d3⟩ := hd
 rw [List.nodup_append] at d2; obtain ⟨d4, d5, d6⟩ := d2
 have oth : ∀ k, k ∈ A.flatMap Thg.blks \/ k ∈ B.flatMap Thg.blks -> k ∉ o.blks /\ k ∉ o'.blks /\ t'.get k = t.get k /\ base <= k /\ tf.get k = none := by
  intro k hk'; have hm : k ∈ (A ++ o :: B).flatMap Thg.blks := by rw [zh9]; simp only [List.mem_append]; rcases hk' with h | h <;> simp [h]
  have h1 : k ∉ o.blks := fun hc => by
   rcases hk' with h' | h'
   ·exact d3 k h' k (by simp [hc]) rfl
   ·exact d6 k hc k h' rfl
  have h2 : k ∉ o'.blks := fun hc => by
   rcases hn k hc with h' | h'
   ·exact h1 h'
   ·obtain ⟨y, hy⟩ := h.live hm
    rw [h'.1] at hy; cases hy
  exact ⟨h1, h2, hk k h1 h2, h.low k hm⟩
 have mem : ∀ k, k ∈ (A ++ o' :: B).flatMap Thg.blks -> (k ∈ A.flatMap Thg.blks \/ k ∈ B.flatMap Thg.blks) \/ k ∈ o'.blks := by
  intro k hk'; rw [zh9] at hk'
  simp only [List.mem_append] at hk'
  rcases hk' with h | h | h
  ·exact .inl (.inl h)
  ·exact .inr h
  ·exact .inl (.inr h)
 refine ⟨ht, ?_, fun p hp => ?_, fun k hk' => ?_⟩
 ·rw [zh9, List.nodup_append]
  refine ⟨d1, ?_, fun x hx y hy e => ?_⟩
  ·rw [List.nodup_append]
   exact ⟨hnd, d5, fun x hx y hy e => (oth y (.inr hy)).2.1 (e ▸ hx)⟩
  ·subst e
   rcases List.mem_append.1 hy with h' | h'
   ·exact (oth x (.inl hx)).2.1 h'
   ·exact d3 x hx x (by simp [h']) rfl
 ·have hp' : p ∈ A \/ p = o' \/ p ∈ B := by simpa using hp
  rcases hp' with h' | h' | h'
  ·exact p.keep (h.ok p (by simp [h'])) (TLe.refl _) fun k hk' => by
    obtain ⟨_, _, e, _, f⟩ := oth k (.inl (List.mem_flatMap.2 ⟨p, h', hk'⟩)); exact ⟨e, f⟩
  ·subst h'; exact hok
  ·exact p.keep (h.ok p (by simp [h'])) (TLe.refl _) fun k hk' => by
    obtain ⟨_, _, e, _, f⟩ := oth k (.inr (List.mem_flatMap.2 ⟨p, h', hk'⟩)); exact ⟨e, f⟩
 ·rcases mem k hk' with h' | h'
  ·obtain ⟨_, _, _, e, f⟩ := oth k h'; exact ⟨e, f⟩
  ·rcases hn k h' with h'' | h''
   ·exact h.low k (by rw [zh9]; simp [h''])
   ·exact ⟨h''.2, h.tfn h''.1⟩
def zzbz : Thg := ⟨[], fun _ _ => True, fun _ _ _ => trivial, fun _ _ h => by cases h⟩
theorem Objs.add (h : Objs base tf t (A ++ B)) {t' : Tr zam} (hk : ∀ k, k ∉ o'.blks -> t'.get k = t.get k) (hn : ∀ k ∈ o'.blks, t.get k = none /\ base <= k) (hok : o'.ok tf t') (hnd : o'.blks.Nodup) (ht : TLe tf t') : Objs base tf t' (A ++ o' :: B) := by
 have e : Objs base tf t (A ++ zzbz :: B) := by
  have hm : (A ++ zzbz :: B).flatMap Thg.blks = (A ++ B).flatMap Thg.blks := by simp [zzbz]
  refine ⟨h.tle, by rw [hm]; exact h.nodup, fun o ho => ?_, fun k hk => h.low k (by rw [hm] at hk; exact hk)⟩
  have : o ∈ A \/ o = zzbz \/ o ∈ B := by simpa using ho
  rcases this with h' | h' | h'
  ·exact h.ok o (by simp [h'])
  ·subst h'; trivial
  ·exact h.ok o (by simp [h'])
 exact e.upd (fun k _ h2 => hk k h2) (fun k hk => .inr (hn k hk)) hok hnd ht
theorem Objs.drop (h : Objs base tf t (A ++ o :: B)) : Objs base tf t (A ++ B) := by
 have hd := h.nodup
 rw [zh9] at hd; refine ⟨h.tle, ?_, fun p hp => h.ok p (by rcases List.mem_append.1 hp with h | h <;> simp [h]), fun k hk => h.low k (by rw [zh9]; rw [List.flatMap_append] at hk; rcases List.mem_append.1 hk with h | h <;> simp [h])⟩
 rw [List.flatMap_append]; rw [List.nodup_append] at hd ⊢
 obtain ⟨d1, d2, d3⟩ := hd
 rw [List.nodup_append] at d2; exact ⟨d1, d2.2.1, fun x hx y hy e => d3 x hx y (by simp [hy]) e⟩
theorem Objs.notin (h : Objs base tf t (A ++ o :: B)) {k : Nat} (hk : k ∈ o.blks) : k ∉ (A ++ B).flatMap Thg.blks := by
 have hd := h.nodup
 rw [zh9, List.nodup_append] at hd; obtain ⟨d1, d2, d3⟩ := hd
 rw [List.nodup_append] at d2; rw [List.flatMap_append]; intro hm; rcases List.mem_append.1 hm with h' | h'
 ·exact d3 k h' k (by simp [hk]) rfl
 ·exact d2.2.2 k hk k h' rfl
theorem Objs.freezeL {sz : Nat} {m : List D} {v : zab} (h : Objs base tf t (A ++ zat base sz m v :: B)) : ∃ tf', TLe tf tf' /\ Objs base tf' t (A ++ B) /\ RSl tf' sz m v := by
 have hl : Loose base tf t sz m v := h.ok (zat base sz m v) (by simp)
 obtain ⟨tf', h1, h2, h3, h4⟩ := hl.freeze h.tle
 refine ⟨tf', h1, h.drop.keep h1 h2 fun k hk => ⟨rfl, ?_⟩, h3⟩
 have hb : ¬ zrx v k := fun hb => h.notin (o := zat base sz m v) (zgx.2 hb) hk
 rw [h4 k hb]; exact (h.drop.low k hk).2
end
end Go.Am
namespace Go.Proofs
open Go Go.Am
variable [zcg]
variable {t tf : Tr zam}
def _root_.Go.Am.XIns.d (i : XIns) : D := .st [.int .u8 i.op, .int .i64 i.a, .int .i64 i.b]
def _root_.Go.Am.XIns.cells (i : XIns) : List zab := [.int .u8 i.op, .int .i64 i.a, .int .i64 i.b]
theorem z6o {i : XIns} {cs : List zab} : RD t i.d cs ↔ cs = i.cells := by
 unfold XIns.d XIns.cells; simp only [zij, zbd, zbu, zgn]; constructor
 ·rintro ⟨cl, rfl, c, r, rfl, rfl, c', r', rfl, rfl, c'', r'', rfl, rfl, rfl⟩; rfl
 ·rintro rfl; exact ⟨[[.int .u8 i.op], [.int .i64 i.a], [.int .i64 i.b]], rfl, _, _, rfl, rfl, _, _, rfl, rfl, _, _, rfl, rfl, rfl⟩
def zax : Nat -> List (List Nat) -> List (zab × zab)
 | _, [] => []
 | i, k :: l => (.str k, .int .i64 (i : Int)) :: zax (i + 1) l
theorem zwn {a b : List Nat} : zwo (.str a) (.str b) = some (decide (a = b)) := by
 unfold zwo; simp only [zab.asIntK, zab.asStr, zac]; congr 1
 cases h : zki a b with
 | true => rw [decide_eq_true ((zf0 _ _).1 h)]
 | false => rw [decide_eq_false (fun e => by rw [(zf0 _ _).2 e] at h; cases h)]
theorem zs4 {k : List Nat} : ∀ (l : List (List Nat)) (i : Nat), zul (.str k) (zax i l) = some (if k ∈ l then some (.int .i64 ((i + zsx k l : Nat) : Int)) else none)
 | [], i => by simp [zax, zul]
 | x :: l, i => by
  unfold zax zul zsx; rw [zwn, zac]; by_cases h : k = x
  ·simp [h]
  ·simp only [h, decide_false, cond_false, if_false, yat, false_or]
   rw [zs4 l (i + 1)]
   rw [show i + 1 + zsx k l = i + (zsx k l + 1) by omega]
theorem zod {k : List Nat} : ∀ (l : List (List Nat)) (i : Nat), k ∉ l -> zjd (.str k) (.int .i64 ((i + l.length : Nat) : Int)) (zax i l) = some (zax i (l ++ [k]))
 | [], i, _ => by simp [zax, zjd]
 | x :: l, i, h => by
  simp only [List.cons_append, zax]; unfold zjd; rw [zwn, zac]; have h1 : k ≠ x := fun e => h (e ▸ yaz)
  have := zod l (i + 1) (fun m => h (yas _ m))
  simp only [h1, decide_false, cond_false]; rw [yao, show i + (l.length + 1) = i + 1 + l.length by omega, this, zac]
structure TR where
 b : Nat
 pl : List zab
 vn : zab
 vc : zab
 vw : zab
 vt : zab
 vk : zab
 m1 : Nat
 m2 : Nat
def TR.kp (r : TR) : List zab × zab × zab := (r.pl, r.vw, r.vt)
structure XSt where
 names : List (List Nat)
 consts : List zc3
 ws : List D
 ts : List D
 code : List XIns
abbrev bs : Nat := C19.base
def TR.cells (r : TR) : List zab := r.pl ++ [r.vn, r.vc, r.vw, r.vt, .map r.m1, .map r.m2, r.vk]
def tsL (key : zc3 -> List Nat) (r : TR) (s : XSt) : List Thg :=
 [zfm r.b none r.cells, zfv r.m1 (zax 0 s.names), zfv r.m2 (zax 0 (s.consts.map key)), zat C19.base 1 (s.names.map D.str) r.vn, zat C19.base 6 (s.consts.map zc3.d) r.vc, zat C19.base 1 s.ws r.vw, zat C19.base 1 s.ts r.vt, zat C19.base 3 (s.code.map XIns.d) r.vk]
structure TS (key : zc3 -> List Nat) (tf t : Tr zam) (r : TR) (s : XSt) : Prop where
 pl : r.pl.length = 4
 os : Objs C19.base tf t (tsL key r s)
section
variable {key : zc3 -> List Nat} {r : TR} {s : XSt}
theorem TS.cel (h : TS key tf t r s) : Cel t r.b none r.cells := h.os.ok (zfm r.b none r.cells) (by simp [tsL])
theorem TS.map1 (h : TS key tf t r s) : t.get r.m1 = some (.map (zax 0 s.names)) := h.os.ok (zfv r.m1 (zax 0 s.names)) (by simp [tsL])
theorem TS.map2 (h : TS key tf t r s) : t.get r.m2 = some (.map (zax 0 (s.consts.map key))) := h.os.ok (zfv r.m2 (zax 0 (s.consts.map key))) (by simp [tsL])
theorem TS.ln (h : TS key tf t r s) : Loose C19.base tf t 1 (s.names.map D.str) r.vn := h.os.ok (zat C19.base 1 (s.names.map D.str) r.vn) (by simp [tsL])
theorem TS.lc (h : TS key tf t r s) : Loose C19.base tf t 6 (s.consts.map zc3.d) r.vc := h.os.ok (zat C19.base 6 (s.consts.map zc3.d) r.vc) (by simp [tsL])
theorem TS.lk (h : TS key tf t r s) : Loose C19.base tf t 3 (s.code.map XIns.d) r.vk := h.os.ok (zat C19.base 3 (s.code.map XIns.d) r.vk) (by simp [tsL])
theorem TS.baseB (h : TS key tf t r s) : C19.base <= r.b /\ tf.get r.b = none := h.os.low r.b (by simp [tsL, zfm])
theorem TS.inB {key : zc3 -> List Nat} {r : TR} {s : XSt} : r.b ∈ (tsL key r s).flatMap Thg.blks := by simp [tsL, zfm]
theorem TS.junk (h : TS key tf t r s) {n : Nat} {t' : Tr zam} (hn : t.get n = none) (ho : Off n t t') : TS key tf t' r s := ⟨h.pl, h.os.junk hn ho⟩
theorem TS.other (h : TS key tf t r s) {n : Nat} {t' : Tr zam} (hn : n ∉ (tsL key r s).flatMap Thg.blks) (hf : tf.get n = none) (ho : Off n t t') : TS key tf t' r s := ⟨h.pl, h.os.other hn hf ho⟩
theorem TS.fresh (h : TS key tf t r s) {n : Nat} (hn : t.get n = none) : n ∉ (tsL key r s).flatMap Thg.blks := h.os.fresh hn
theorem TS.froze (h : TS key tf t r s) {n : Nat} {y : zam} (hn : n ∉ (tsL key r s).flatMap Thg.blks) (hy : t.get n = some y) (hf : tf.get n = none) : TS key (tf.set n y) t r s /\ TLe tf (tf.set n y) := ⟨⟨h.pl, (h.os.froze hn hy hf).1⟩, (h.os.froze hn hy hf).2⟩
theorem zp9 {p : List zab} (h : p.length = 4) {l : List zab} {k : Nat} : (p ++ l)[4 + k]? = l[k]? := by
 rw [yaq (by omega)]; congr 1; omega
theorem zof {p : List zab} (h : p.length = 4) {l : List zab} {k : Nat} {v : zab} : (p ++ l).set (4 + k) v = p ++ l.set k v := by
 rw [List.set_append_right _ _ (by omega)]; congr 1; congr 1; omega
theorem TS.ldN (h : TS key tf t r s) : zap C19 30 ⟨0, t⟩ (.ptr r.b 4) = some r.vn := h.cel.load1 ty30 rfl (zp9 (k := 0) h.pl)
theorem TS.ldC (h : TS key tf t r s) : zap C19 31 ⟨0, t⟩ (.ptr r.b 5) = some r.vc := h.cel.load1 ty31 rfl (zp9 (k := 1) h.pl)
theorem TS.ldM1 (h : TS key tf t r s) : zap C19 107 ⟨0, t⟩ (.ptr r.b 8) = some (.map r.m1) := h.cel.load1 zzas rfl (zp9 (k := 4) h.pl)
theorem TS.ldM2 (h : TS key tf t r s) : zap C19 107 ⟨0, t⟩ (.ptr r.b 9) = some (.map r.m2) := h.cel.load1 zzas rfl (zp9 (k := 5) h.pl)
theorem TS.ldK (h : TS key tf t r s) : zap C19 37 ⟨0, t⟩ (.ptr r.b 10) = some r.vk := h.cel.load1 zzaq rfl (zp9 (k := 6) h.pl)
end
theorem znx {b : Nat} : zaj C19 109 3 (.ptr b 0) = some (.ptr b 10) := by kernel_rfl
theorem zgf {b : Nat} : zaj C19 109 0 (.ptr b 0) = some (.ptr b 0) := by kernel_rfl
theorem zzhn {b : Nat} : zaj C19 109 1 (.ptr b 0) = some (.ptr b 8) := by kernel_rfl
theorem zzhm {b : Nat} : zaj C19 109 2 (.ptr b 0) = some (.ptr b 9) := by kernel_rfl
theorem zzfa {b : Nat} : zaj C19 34 1 (.ptr b 0) = some (.ptr b 4) := by kernel_rfl
theorem zww {b : Nat} : zaj C19 34 2 (.ptr b 0) = some (.ptr b 5) := by kernel_rfl
theorem zze9 {b : Nat} : zaj C19 34 3 (.ptr b 0) = some (.ptr b 6) := by kernel_rfl
theorem z85 {b : Nat} : zaj C19 34 4 (.ptr b 0) = some (.ptr b 7) := by kernel_rfl
theorem zc5 {b o : Nat} : zrn (.ptr b o) = some (.ptr b o) := by kernel_rfl
theorem z0o {d b o : Nat} : same d (.ptr b o) (.ptr b o) = true := by
 have e : ∀ n, Nat.beq n n = true := Nat.beq_refl
 cases d <;> (unfold Am.same; simp only [e, Bool.and_self])
end Go.Proofs
namespace Go.Proofs
open Go Go.Am
variable [zcg]
variable {t tf : Tr zam} {key : zc3 -> List Nat} {r : TR} {s : XSt}
theorem el37 : zxs C19 37 54 3 := ⟨⟨_, zzaq, rfl, rfl⟩, ⟨_, ty54, rfl, rfl, by decide, by decide⟩⟩
theorem zzgw {n : Nat} {i : XIns} (hn : t.get n = none) : ∃ t', za0 C19 37 1 [(0, .agg [.int .u8 i.op, .int .i64 i.a, .int .i64 i.b])] ⟨n, t⟩ = some (.slice n 0 1 1, ⟨n + 1, t'⟩) /\ zhp t' 3 (.slice n 0 1 1) [i.cells] /\ TLe t t' /\ Off n t t' :=
 zhh (C := C19) (T := 37) (el := 54) (sz := 3) (n := 1) (cl := [i.cells]) zzaq rfl ty54 rfl rfl (by decide) rfl (fun k cs hk => by
  cases k with
  | zero => simp at hk; subst hk; rfl
  | succ k => simp at hk) rfl hn
def Tgt (tf : Tr zam) (b : Nat) (v : zab) (i : Nat) : Prop := ∃ n m, v = .func (.func 232) [] [.ptr n 0, .ptr m 0] /\ Cel tf n none [.ptr b 0] /\ Cel tf m none [.int .i64 (i : Int)]
theorem Tgt.mono {tf' : Tr zam} {b i : Nat} {v : zab} (h : Tgt tf b v i) (hf : TLe tf tf') : Tgt tf' b v i := by
 obtain ⟨n, m, rfl, ⟨c, h1, h2⟩, ⟨d, h3, h4⟩⟩ := h
 exact ⟨n, m, rfl, ⟨c, hf _ _ h1, h2⟩, ⟨d, hf _ _ h3, h4⟩⟩
theorem zou {i : XIns} {Q : zav} (h : TS key tf t r s) (hl : s.code.length < 300000)
  (hQ : ∀ tf' t' r' v, TLe tf tf' -> r'.b = r.b -> r'.kp = r.kp -> TS key tf' t' r' ⟨s.names, s.consts, s.ws, s.ts, s.code ++ [i]⟩ -> Tgt tf' r.b v s.code.length -> Q v t') : Wc C19 F 168 [.ptr r.b 0, .int .u8 i.op, .int .i64 i.a, .int .i64 i.b] t Q := by
 refine w168 _ _ _ _ ?_
 simp only [t168, wpT]; intro n0 hn0 hb0; obtain ⟨t1, a1, a2, a3, a4⟩ := z9s (v := .ptr r.b 0) hn0
 have h1 := h.junk hn0 a4
 have a2 : Cel t1 n0 none [.ptr r.b 0] := a2
 have l0 : ∀ t', t'.get n0 = t1.get n0 -> zap C19 106 ⟨0, t'⟩ (.ptr n0 0) = some (.ptr r.b 0) := fun t' e => (a2.off e).load1 ty106 rfl rfl
 rw [a1, zaa, l0 t1 rfl, zaa, zc5, zaa, znx, zaa, h1.ldK, zaa, h1.lk.len, zaa, yag, zag, zaa]; intro n1 hn1 hb1; obtain ⟨t2, b1, b2, b3, b4⟩ := zm6 (C := C19) ty3 hn1
 have h2 := h1.junk hn1 b4
 have ne01 : n0 ≠ n1 := by
  intro e; subst e; obtain ⟨c, hc, _⟩ := a2
  rw [hc] at hn1; cases hn1
 rw [b1, zaa]; intro m2 _ _; obtain ⟨t3, c1, c2, c3⟩ := b2.store1 (C := C19) hb1 (j := 0) (v := .int .i64 (s.code.length : Int)) ty3 rfl rfl rfl (by decide)
 have c2 : Cel t3 n1 none [.int .i64 (s.code.length : Int)] := c2
 have h3 : TS key tf t3 r s := h2.other (h1.fresh hn1) (h1.os.tfn hn1) c3
 have e03 : t3.get n0 = t1.get n0 := by rw [c3 n0 ne01, b4 n0 ne01]
 rw [c1, zaa, l0 t3 e03, zaa]; simp only [l0 t3 e03, zaa, zc5, znx, h3.ldK, if_true]; intro n3 hn3 hb3; obtain ⟨t4, d1, d2, d3, d4⟩ := zzgw (i := i) hn3
 have h4 := h3.junk hn3 d4
 have ne03 : n0 ≠ n3 := by
  intro e; subst e; obtain ⟨c, hc, _⟩ := a2
  rw [e03, hc] at hn3; cases hn3
 have ne13 : n1 ≠ n3 := by
  intro e; subst e; obtain ⟨c, hc, _⟩ := c2
  rw [hc] at hn3; cases hn3
 have e04 : t4.get n0 = t1.get n0 := by rw [d4 n0 ne03, e03]
 rw [d1, zaa]; simp only [l0 t4 e04, zaa, z0o, if_true, h4.ldK, h4.lk.same]; intro n4 hn4 hb4; obtain ⟨t5, f1, f2, f3, f4⟩ := zf9 (C := C19) el37 (m := [i.d]) h4.lk d2 (by
  rw [zbd]; exact ⟨_, _, rfl, z6o.2 rfl, zbu.2 rfl⟩) (by
  intro a ha; simp only [XIns.cells, List.flatten_cons, List.flatten_nil, ybe, yat, List.not_mem_nil, or_false] at ha; rcases ha with rfl | rfl | rfl <;> rfl) (by simp) (by simp; omega) hn4 hb4 h4.os.tle
 have ne04 : n0 ≠ n4 := by
  intro e; subst e; obtain ⟨c, hc, _⟩ := a2
  rw [e04, hc] at hn4; cases hn4
 have c24 : Cel t4 n1 none [.int .i64 (s.code.length : Int)] := c2.off (d4 n1 ne13)
 have ne14 : n1 ≠ n4 := by
  intro e; subst e; obtain ⟨c, hc, _⟩ := c24
  rw [hc] at hn4; cases hn4
 have nin0 := h.fresh hn0
 have nin1 := h1.fresh hn1
 have inK : ∀ k, zrx r.vk k -> k ∈ (tsL key r s).flatMap Thg.blks := fun k hk => by
  have := zgx.2 hk
  simp [tsL, zfm, zfv, zat, this]
 have e05 : t5.get n0 = t1.get n0 := by rw [f4 n0 ne04 (fun e => nin0 (inK _ e)), e04]
 have e15 : t5.get n1 = t3.get n1 := by rw [f4 n1 ne14 (fun e => nin1 (inK _ e)), d4 n1 ne13]
 rw [f1, zaa]; dsimp only
 rw [l0 t5 e05, zaa, if_pos z0o]; intro m6 _ _; have ec : (s.code.map XIns.d).length + [i.d].length = (s.code ++ [i]).length := by simp
 have hd : s.code.map XIns.d ++ [i.d] = (s.code ++ [i]).map XIns.d := by simp
 rw [ec, hd] at f2; have o5 : Objs C19.base tf t5 ([zfm r.b none r.cells, zfv r.m1 (zax 0 s.names), zfv r.m2 (zax 0 (s.consts.map key)), zat C19.base 1 (s.names.map D.str) r.vn, zat C19.base 6 (s.consts.map zc3.d) r.vc, zat C19.base 1 s.ws r.vw, zat C19.base 1 s.ts r.vt] ++ zat C19.base 3 ((s.code ++ [i]).map XIns.d) (.slice n4 0 (s.code ++ [i]).length (s.code ++ [i]).length) :: []) := by
  refine Objs.upd (o := zat C19.base 3 (s.code.map XIns.d) r.vk) h4.os (fun k k1 k2 => f4 k ?_ (fun e => k1 (zgx.2 e))) (fun k hk => ?_) f2 (by simp [zat, zjx]) f3
  ·intro e; subst e; exact k2 (by simp [zat, zjx])
  ·have : k = n4 := by simpa [zat, zjx] using hk
   subst this; exact .inr ⟨hn4, hb4⟩
 have cel5 : Cel t5 r.b none r.cells := o5.ok (zfm r.b none r.cells) (by simp)
 have hlen : r.cells.length = 11 := by simp [TR.cells, h.pl]
 obtain ⟨t6, g1, g2, g3⟩ := cel5.store1 (C := C19) h.baseB.1 (j := 10) (v := .slice n4 0 (s.code ++ [i]).length (s.code ++ [i]).length) zzaq rfl rfl rfl (by omega)
 rw [ec, g1, zaa]; have es : r.cells.set 10 (.slice n4 0 (s.code ++ [i]).length (s.code ++ [i]).length) = TR.cells ⟨r.b, r.pl, r.vn, r.vc, r.vw, r.vt, .slice n4 0 (s.code ++ [i]).length (s.code ++ [i]).length, r.m1, r.m2⟩ := zof (k := 6) h.pl
 rw [es] at g2; have o6 : Objs C19.base tf t6 (tsL key ⟨r.b, r.pl, r.vn, r.vc, r.vw, r.vt, .slice n4 0 (s.code ++ [i]).length (s.code ++ [i]).length, r.m1, r.m2⟩ ⟨s.names, s.consts, s.ws, s.ts, s.code ++ [i]⟩) := by
  refine Objs.upd (A := []) (o := zfm r.b none r.cells) o5 (fun k k1 _ => g3 k (fun e => k1 (by simp [zfm, e]))) (fun k hk => .inl hk) g2 (by simp [zfm]) (f3.off h.baseB.2 g3)
 have h6 : TS key tf t6 ⟨r.b, r.pl, r.vn, r.vc, r.vw, r.vt, .slice n4 0 (s.code ++ [i]).length (s.code ++ [i]).length, r.m1, r.m2⟩ ⟨s.names, s.consts, s.ws, s.ts, s.code ++ [i]⟩ := ⟨h.pl, o6⟩
 have nr0 : n0 ≠ r.b := fun e => nin0 (e ▸ TS.inB)
 have nr1 : n1 ≠ r.b := fun e => nin1 (e ▸ TS.inB)
 have e06 : t6.get n0 = t1.get n0 := by rw [g3 n0 nr0, e05]
 have e16 : t6.get n1 = t3.get n1 := by rw [g3 n1 nr1, e15]
 have notin : ∀ n, n ∉ (tsL key r s).flatMap Thg.blks -> n ≠ n4 -> n ∉ (tsL key ⟨r.b, r.pl, r.vn, r.vc, r.vw, r.vt, .slice n4 0 (s.code ++ [i]).length (s.code ++ [i]).length, r.m1, r.m2⟩ ⟨s.names, s.consts, s.ws, s.ts, s.code ++ [i]⟩).flatMap Thg.blks := by
  intro n h1 h2 h3; simp only [tsL, zfm, zfv, zat, List.flatMap_cons, List.flatMap_nil, List.mem_append, List.mem_singleton, ybe, not_or] at h1 h3; simp only [zjx, List.mem_singleton] at h3; simp only [zjx] at h1
  obtain ⟨k1, k2, k3, k4, k5, k6, k7, k8⟩ := h1
  rcases h3 with h | h | h | h | h | h | h | h
  ·exact k1 h
  ·exact k2 h
  ·exact k3 h
  ·exact k4 h
  ·exact k5 h
  ·exact k6 h
  ·exact k7 h
  ·exact h2 h
 have tn1 : t.get n1 = none := by rw [<- a4 n1 (Ne.symm ne01)]; exact hn1
 obtain ⟨x0, hx0, hx0'⟩ := a2
 obtain ⟨x1, hx1, hx1'⟩ := c2
 obtain ⟨h7, q7⟩ := h6.froze (n := n0) (notin n0 nin0 ne04) (by rw [e06]; exact hx0) (h.os.tfn hn0)
 obtain ⟨h8, q8⟩ := h7.froze (n := n1) (notin n1 nin1 ne14) (by rw [e16]; exact hx1) (by rw [Tr.get_set, if_neg (Ne.symm ne01)]; exact h.os.tfn tn1)
 refine hQ _ t6 ⟨r.b, r.pl, r.vn, r.vc, r.vw, r.vt, .slice n4 0 (s.code ++ [i]).length (s.code ++ [i]).length, r.m1, r.m2⟩ _ (q7.trans q8) rfl rfl h8 ⟨n0, n1, rfl, ⟨x0, ?_, hx0'⟩, ⟨x1, ?_, hx1'⟩⟩
 ·rw [Tr.get_set, if_neg ne01, Tr.get_set, if_pos rfl]
 ·rw [Tr.get_set, if_pos rfl]
theorem _root_.Go.Am.Loose.own {base sz : Nat} {l : List D} {b n k : Nat} (h : Loose base tf t sz l (.slice b 0 n k)) : OwnD base tf t sz l b (some sz) := by
 rcases h with ⟨e1, _⟩ | ⟨b', cl, c, e1, k0, k1, k2, k3, k4⟩
 ·cases e1
 ·cases e1
  have hcl := k4.length
  have hcl3 : ∀ (j : Nat) cs, cl[j]? = some cs -> cs.length = sz := fun j cs hj => (k3 j cs hj).1
  have hfl := zfy hcl3
  refine ⟨k0, k1, cl, ⟨c, by rw [hfl, hcl]; exact k2, fun j a hj => ?_⟩, hcl3, k4⟩
  have hj2 : j < cl.length * sz := by rw [<- hfl]; exact (yad.1 hj).1
  have hpos : 0 < sz := by
   rcases Nat.eq_zero_or_pos sz with e | e
   ·subst e; simp at hj2
   ·exact e
  have q1 : j / sz < cl.length := Nat.div_lt_of_lt_mul (by rw [yai]; exact hj2)
  have hq : cl[j / sz]? = some cl[j / sz] := yae q1
  have hql := hcl3 _ _ hq
  obtain ⟨a', hx⟩ : ∃ a', cl[j / sz][j % sz]? = some a' := ⟨_, yae (l := cl[j / sz]) (i := j % sz) (by rw [hql]; exact Nat.mod_lt _ hpos)⟩
  have e := zfz hcl3 _ _ _ _ hq hx
  have ej : j / sz * sz + j % sz = j := by rw [yai]; exact ybi j sz
  rw [ej, hj] at e; have := (k3 _ _ hq).2 _ _ hx
  rw [ej] at this; rw [this, <- Option.some.inj e]
theorem _root_.Go.Am.OwnD.loose {base sz : Nat} {l : List D} {b n : Nat} (h : OwnD base tf t sz l b (some sz)) (hn : l.length = n) : Loose base tf t sz l (.slice b 0 n n) := by
 obtain ⟨h1, h2, cl, ⟨c, h3, h4⟩, h5, h6⟩ := h
 subst hn; have := h6.length
 refine .inr ⟨b, cl, c, rfl, h1, h2, by rw [h3, zfy h5, this], fun i cs hi => ⟨h5 i cs hi, fun j a hj => h4 _ _ (zfz h5 i j cs a hi hj)⟩, h6⟩
theorem zl9 {i : Nat} {v : zab} {Q : zav} {x : XIns} (h : TS key tf t r s) (hv : Tgt tf r.b v i) (hi : s.code[i]? = some x) (hl : s.code.length < 300000)
  (hQ : ∀ t', TS key tf t' r ⟨s.names, s.consts, s.ws, s.ts, s.code.set i ⟨x.op, s.code.length, x.b⟩⟩ -> Q (.tup []) t') : zee (zn3 v []) fun p => Wq C19 F za3 p.1 p.2 t Q := by
 obtain ⟨n, m, rfl, h1, h2⟩ := hv
 have ef : zn3 (.func (.func 232) [] [.ptr n 0, .ptr m 0]) [] = some (232, [.ptr n 0, .ptr m 0]) := rfl
 rw [ef, zaa, q232]; have htle := h.os.tle
 have l0 : zap C19 106 ⟨0, t⟩ (.ptr n 0) = some (.ptr r.b 0) := zd0 (H := ⟨0, tf⟩) (fun _ _ k => htle _ _ k) (h1.load1 ty106 rfl rfl)
 have l1 : zap C19 3 ⟨0, t⟩ (.ptr m 0) = some (.int .i64 (i : Int)) := zd0 (H := ⟨0, tf⟩) (fun _ _ k => htle _ _ k) (h2.load1 ty3 rfl rfl)
 have hlt : i < s.code.length := (yad.1 hi).1
 refine w232 _ _ ?_
 simp only [t232, wpT]; obtain ⟨b, e1⟩ : ∃ b, r.vk = .slice b 0 s.code.length s.code.length := by
  rcases h.lk with ⟨_, e2⟩ | ⟨b, cl, c, e1, _⟩
  ·have : s.code = [] := List.map_eq_nil_iff.1 e2
   rw [this] at hlt; simp at hlt
  ·rw [yag] at e1; exact ⟨b, e1⟩
 have ldk := h.ldK
 have hlk := h.lk
 rw [e1] at ldk hlk; have ia : zaf C19 37 (.slice b 0 s.code.length s.code.length) (.int .i64 (i : Int)) = some (.ptr b (0 + i * 3)) := zb6 sl37 hlt
 have fa : zaj C19 54 1 (.ptr b (0 + i * 3)) = some (.ptr b (0 + i * 3 + 1)) := by
  unfold zaj zf5; rw [ty54, zac]; rfl
 have lv : za8 (.slice b 0 s.code.length s.code.length) = some (.int .i64 (s.code.length : Int)) := rfl
 rw [l0, zaa, zc5, zaa, znx, zaa, ldk, zaa, l1, zaa, zag, zaa]; simp only [zaa, zc5, znx, ldk, lv, zag, ia, fa]; intro mm _ _; obtain ⟨t', g1, g2, g3⟩ := OwnD.store (C := C19) hlk.own (i := i) (o := 1) (T := 3) (d := x.d) (d' := XIns.d ⟨x.op, s.code.length, x.b⟩) (v := .int .i64 (s.code.length : Int)) (by simp [hi]) ty3 rfl (by exact (by decide : 1 + 1 <= 3)) rfl (fun cs h3 hrd => by
  rw [z6o] at hrd ⊢
  subst hrd; rfl)
 have e3 : 0 + i * 3 + 1 = i * 3 + 1 := by omega
 rw [e3, g1, zaa]; have hmap : (s.code.map XIns.d).set i (XIns.d ⟨x.op, s.code.length, x.b⟩) = (s.code.set i ⟨x.op, s.code.length, x.b⟩).map XIns.d := by rw [List.map_set]
 rw [hmap] at g2; refine hQ t' ⟨h.pl, ?_⟩
 have hos := h.os
 refine Objs.upd (A := [zfm r.b none r.cells, zfv r.m1 (zax 0 s.names), zfv r.m2 (zax 0 (s.consts.map key)), zat C19.base 1 (s.names.map D.str) r.vn, zat C19.base 6 (s.consts.map zc3.d) r.vc, zat C19.base 1 s.ws r.vw, zat C19.base 1 s.ts r.vt]) (B := []) (o := zat C19.base 3 (s.code.map XIns.d) r.vk) hos (fun k k1 _ => g3 k (fun e => k1 ?_)) (fun k hk => .inl hk) ?_ ?_ (htle.off ?_ g3)
 ·subst e; rw [e1]; simp [zat, zjx]
 ·rw [e1]; exact g2.loose (by simp)
 ·rw [e1]; simp [zat, zjx]
 ·exact (hlk.none (zhl.2 rfl)).1
end Go.Proofs
namespace Go.Proofs
open Go Go.Am
variable [zcg]
variable {t : Tr zam}
theorem pv36 {f : zem} {u v : zab} (h1 : RSl t 1 (zeb f.n.limbs) u) (h2 : RSl t 1 (zeb f.d.limbs) v) (hf : f.ok) : pvC C19 F 36 [.agg [.bool f.n.neg, u, .bool f.d.neg, v]] t = some (.int .i64 (zh4 f : Nat)) := by
 have hs := zhe hf
 refine zbj.2 (w36 _ _ _ _ ?_)
 unfold zh4 at hs ⊢
 simp (disch := omega) only [t36, wpT, h1.len, h2.len, zaa, zag, zjm, zak]
 simp
mutual
theorem pv37 : ∀ (x : zal) (left : Int) (cs : List zab), x.ok -> -9007199254740992 <= left -> left <= 9007199254740992 -> RD t x.d cs -> pvC C19 F 37 [.agg cs, .int .i64 left] t = some (.int .i64 (zeh x left))
 | .mk op name v args, left, cs, hx, hl1, hl2, h => by
  obtain ⟨a, b, c, rfl, ha, hb, hc⟩ := zfa h
  simp only [zal.op, zal.name, zal.v, zal.args] at ha hb hc ⊢
  have hx' := hx
  unfold zal.ok at hx'; have hf := zhe hx'.2.1
  have hn := hx'.1
  unfold zgc at hn; refine zbj.2 (w37 _ _ _ _ _ _ _ _ _ _ ?_)
  simp (disch := omega) only [t37, wpT, q36, pv36 ha hb hx'.2.1, zaa, zag, zmf, zd6, if_true, zf8, zak, Int.tdiv_eq_ediv_of_nonneg]
  unfold zeh; exact zzeg args args left _ op name v _ _ c 0 hc rfl hx'.2.2.2 hx'.2.2.1 (by omega) hl1 hl2 (by omega)
theorem zzeg : ∀ (l args : List zal) (left n : Int) (op : Nat) (name : List Nat) (v : zc3) (a b c : zab) (i : Nat), RSl t 9 (args.map zal.d) c -> args.drop i = l -> zal.oks l -> args.length < zgc -> 0 <= n -> -9007199254740992 <= left -> left <= 9007199254740992 -> n <= 27021597764222976 →
  jp 37 2 [.int .i64 left, .int .i64 n, .int .i64 i, .int .u8 op, .str name, .int .u8 v.kind, .bool v.f.n.neg, a, .bool v.f.d.neg, b, .int .i64 v.i, c] t (fun v' t' => v' = .int .i64 (zgs l left n) /\ t' = t)
 | [], args, left, n, op, name, v, a, b, c, i, hc, hd, hok, hsz, hn, hl1, hl2, hn2 => by
  have := zkj hd
  refine j37_2 _ _ _ _ _ _ _ _ _ _ _ _ ?_
  simp only [zzfx, wpT, hc.len, zaa, zag, yag, zaw]; rw [if_neg (by omega)]
  unfold zgs; simp
 | x :: l, args, left, n, op, name, v, a, b, c, i, hc, hd, hok, hsz, hn, hl1, hl2, hn2 => by
  obtain ⟨h1, h2, h3⟩ := zi2 hd
  unfold zgc at hsz; have hok' := hok
  unfold zal.oks at hok'; refine j37_2 _ _ _ _ _ _ _ _ _ _ _ _ ?_
  obtain ⟨pb, po, cs, g1, g2, g3, g4, g5⟩ := zj2.at sl48 (by simp) hc (i := i) (d := x.d) (by simp [h1])
  simp only [zzfx, wpT, hc.len, zaa, zag, yag, zaw, zc9, g1, g2, zxz]; rw [if_pos (by omega)]
  unfold zgs; split
  ·rename_i hle
   obtain ⟨a1, b1, c1, rfl, ha1, hb1, hc1⟩ := zfa g5
   have hs := zjc x (left - n) hok'.1
   rw [zko g5 x.zs]; simp only [zaa, cellsOf, zhu, zht, zc2, zet]; simp (disch := omega) only [q37, yaa, yab, zak]
   rw [pv37 x (left - n) _ hok'.1 (by omega) (by omega) g5]
   simp (disch := omega) only [zaa, zag, zak]
   have := zzeg l args left (n + zeh x (left - n)) op name v a b c (i + 1) hc h2 hok'.2 hsz (by omega) hl1 hl2 (by omega)
   rw [show ((i : Int) + 1) = ((i + 1 : Nat) : Int) by omega]
   exact this
  ·simp
end
end Go.Proofs
namespace Go.Proofs
open Go Go.Am
variable [zcg]
variable {t : Tr zam}
def zo3 : List zxr -> Int -> Int
 | [], n => n
 | d :: l, n => if n <= 2000 then zo3 l (n + (d.name.length : Int) / 30) else n
def zh3 : List zhw -> Int -> Int
 | [], n => n
 | r :: l, n => if n <= 2000 then zh3 l (n + (zh4 r.f : Nat)) else n
def zg2 : List zb8 -> Int -> Int
 | [], n => n
 | x :: l, n => if n <= 2000 then zg2 l (zh3 x.rows (n + (x.name.length : Int) / 30)) else n
def zgr (c : za2) (n : Int) : Int := n + ((c.name.length : Int) / 30 + (c.label.length : Int) / 30 + zeh c.when_ (2000 - n))
def zdr : List za2 -> Int -> Int
 | [], n => n
 | c :: l, n => if n <= 2000 then (if zgr c n <= 2000 then zdr l (zgr c n + zeh c.then_ (2000 - zgr c n)) else zdr l (zgr c n)) else n
def sizeP (p : zi7) : Int := zdr p.clauses (zg2 p.tables (zo3 p.defs (1 + (p.name.length : Int) / 30 + p.defs.length + p.tables.length + p.clauses.length)))
theorem zzc2 (n : Nat) : Int.tdiv (n : Int) 30 = (n : Int) / 30 := Int.tdiv_eq_ediv_of_nonneg (by omega)
section
variable {p : zi7} {a b c : zab}
theorem zvp {l : List za2} (hc : RSl t 24 (l.map za2.d) c) (hn : l.length < 1125899906842624) (hf : ∀ x ∈ l, x.fit) : ∀ (m i : Nat) (n : Int), i + m = l.length -> 0 <= n -> n < 1152921504606846976 -> jp 13 14 [.int .i64 2000, .int .i64 n, .int .i64 (i : Int), .str p.name, a, b, c] t (fun v s => v = .int .i64 (zdr (l.drop i) n) /\ s = t) := by
 intro m; induction m with
 | zero =>
  intro i n hi h0 h1; refine zze2 _ _ _ _ _ _ _ ?_
  simp only [z52, wpT, hc.len, zaa, zag, yag, zaw]; rw [if_neg (by omega), yau (by omega)]
  (first | exact ⟨rfl, rfl⟩ | exact ⟨rfl, trivial⟩ | trivial)
 | succ m ih =>
  intro i n hi h0 h1; have hlt : i < l.length := by omega
  obtain ⟨q, off, u1, u2, u3, w1, w2, w3, g1, g2, g3, g4, g5, g6⟩ := zq1 hc (yae hlt)
  have hfit := hf _ (List.getElem_mem hlt)
  obtain ⟨f1, f2, _, _, _, f6, f7⟩ := hfit
  unfold zgc at f1 f2; have ok1 := zal.fit_ok f6
  have ok2 := zal.fit_ok f7
  refine zze2 _ _ _ _ _ _ _ ?_
  simp only [z52, wpT, hc.len, zaa, zag, yag, zaw, zc9]; rw [if_pos (by omega), yam hlt]
  unfold zdr; by_cases h2 : n <= 2000
  ·rw [if_pos h2, if_pos h2]
   unfold zte at g3; rw [g1, zaa, g2, zaa, g3, zaa]; unfold zfs at g6; simp only [zfs, cellsOf, zhu, zht, zc2, zet, yaa, yab]; have s1 := zjc l[i].when_ (2000 - n) ok1
   have e1 := pv37 l[i].when_ (2000 - n) _ ok1 (by omega) (by omega) g4
   unfold zcq at e1; have ew : zgr l[i] n = n + ((l[i].name.length : Int) / 30 + (l[i].label.length : Int) / 30 + zeh l[i].when_ (2000 - n)) := rfl
   have eN : zah .i64 (n + zah .i64 (zah .i64 (zah .i64 ((l[i].name.length : Int) / 30) + zah .i64 ((l[i].label.length : Int) / 30)) + zeh l[i].when_ (2000 - n))) = zgr l[i] n := by
    rw [zak (n := (l[i].name.length : Int) / 30) (by omega) (by omega), zak (n := (l[i].label.length : Int) / 30) (by omega) (by omega), zak (n := (l[i].name.length : Int) / 30 + (l[i].label.length : Int) / 30) (by omega) (by omega),
     zak (n := (l[i].name.length : Int) / 30 + (l[i].label.length : Int) / 30 + zeh l[i].when_ (2000 - n)) (by omega) (by omega), zak (by omega) (by omega)]
    rfl
   have bw : 0 <= zgr l[i] n /\ zgr l[i] n < 1152921504606846976 := by rw [ew]; omega
   refine zbn g6 ?_
   rw [zak (n := 2000 - n) (by omega) (by omega), q37, e1, zaa, zag, zaa]
   simp only [zmf, zd6, if_true, zf8, zzc2, eN, zc9]; have ei : zah .i64 ((i : Int) + 1) = ((i + 1 : Nat) : Int) := by rw [zak (by omega) (by omega)]; omega
   generalize zgr l[i] n = k at *
   by_cases h3 : k <= 2000
   ·rw [if_pos h3, if_pos h3]
    have s2 := zjc l[i].then_ (2000 - k) ok2
    have e2 := pv37 l[i].then_ (2000 - k) _ ok2 (by omega) (by omega) g5
    unfold zcq at e2; rw [zak (n := 2000 - k) (by omega) (by omega), q37, e2, zaa, zag, zaa, ei, zak (by omega) (by omega)]
    exact ih (i + 1) _ (by omega) (by omega) (by omega)
   ·rw [if_neg h3, if_neg h3, ei]
    exact ih (i + 1) _ (by omega) bw.1 bw.2
  ·rw [if_neg h2, if_neg h2]
   (first | exact ⟨rfl, rfl⟩ | exact ⟨rfl, trivial⟩ | trivial)
theorem zob : ∀ (l : List zhw) (n : Int), (∀ r ∈ l, r.fit) -> 0 <= n -> 0 <= zh3 l n /\ zh3 l n <= max n 4503599627372496
 | [], n, _, h => by unfold zh3; omega
 | r :: l, n, hf, h => by
  unfold zh3; split
  ·have := zhe (hf r (by simp)).2.2.2.1
   have := zob l (n + (zh4 r.f : Nat)) (fun x hx => hf x (by simp [hx])) (by omega)
   omega
  ·omega
theorem zqx {l : List zb8} (hb : RSl t 3 (l.map zb8.d) b) {i : Nat} (hi : i < l.length) : ∃ p o v, zaf C19 23 b (.int .i64 (i : Int)) = some (.ptr p o) /\ zaj C19 82 0 (.ptr p o) = some (.ptr p (o + 0)) /\ zaj C19 82 2 (.ptr p o) = some (.ptr p (o + 2)) /\ zap C19 9 ⟨0, t⟩ (.ptr p (o + 0)) = some (.str l[i].name) /\ zap C19 80 ⟨0, t⟩ (.ptr p (o + 2)) = some v /\ RSl t 7 (l[i].rows.map zhw.d) v := by
 obtain ⟨p, o, cs, g1, g2, g3, _, g5⟩ := zj2.at sl23 (by simp) hb (i := i) (d := l[i].d) (by simp [yae hi])
 obtain ⟨v, rfl, hv⟩ := zo4 g5
 exact ⟨p, o, v, g1, by kernel_rfl, by kernel_rfl, g3.load1 ty9 rfl rfl, g3.load1 ty80 rfl rfl, hv⟩
theorem z6e {l : List zb8} (hb : RSl t 3 (l.map zb8.d) b) (hf : ∀ x ∈ l, x.fit) {i : Nat} (hi : i < l.length) (hil : i < 1125899906842624) {Q : zav} : ∀ (m j : Nat) (n : Int), j + m = l[i].rows.length -> 0 <= n -> n < 1152921504606846976 →
  jp 13 6 [.int .i64 2000, .int .i64 (zh3 (l[i].rows.drop j) n), .int .i64 ((i + 1 : Nat) : Int), .str p.name, a, b, c] t Q -> jp 13 10 [.int .i64 2000, .int .i64 n, .int .i64 (i : Int), .int .i64 (j : Int), .str p.name, a, b, c] t Q := by
 obtain ⟨q, o, v, g1, g2, g3, g4, g5, g6⟩ := zqx hb hi
 have hfit := hf _ (List.getElem_mem hi)
 obtain ⟨f1, f2, f3⟩ := hfit
 unfold zgc at f1 f2; have ei : zah .i64 ((i : Int) + 1) = ((i + 1 : Nat) : Int) := by rw [zak (by omega) (by omega)]; omega
 intro m; induction m with
 | zero =>
  intro j n hj h0 h1 hQ; rw [yau (by omega)] at hQ
  refine zze3 _ _ _ _ _ _ _ _ ?_
  simp only [z54, wpT]; rw [g1, zaa, g3, zaa, g5, zaa, g6.len, zaa, yag, zag, zaa]; simp only [zaw]; rw [if_neg (by omega), ei]
  exact hQ
 | succ m ih =>
  intro j n hj h0 h1 hQ; have hlt : j < l[i].rows.length := by omega
  rw [yam hlt] at hQ; unfold zh3 at hQ; refine zze3 _ _ _ _ _ _ _ _ ?_
  simp only [z54, wpT]; rw [g1, zaa, g3, zaa, g5, zaa, g6.len, zaa, yag, zag, zaa]; simp only [zaw, zc9]; rw [if_pos (by omega)]
  by_cases h2 : n <= 2000
  ·rw [if_pos h2] at hQ ⊢
   obtain ⟨q', o', cs, k1, k2, k3, _, k5⟩ := zj2.at sl80 (by simp) g6 (i := j) (d := l[i].rows[j].d) (by simp [yae hlt])
   obtain ⟨x, y, rfl, hx, hy⟩ := z0w k5
   have fa : zaj C19 85 3 (.ptr q' o') = some (.ptr q' (o' + 3)) := by kernel_rfl
   have ld : zap C19 45 ⟨0, t⟩ (.ptr q' (o' + 3)) = some (.agg [.bool l[i].rows[j].f.n.neg, x, .bool l[i].rows[j].f.d.neg, y]) := k3.load (j := 3) ty45 rfl rfl (by exact (by decide : 3 + 4 <= 7))
   have fr : (l[i].rows[j]).fit := f3 _ (List.getElem_mem hlt)
   have hz : zrd [(.bool false), .nilslice, (.bool false), .nilslice] (.agg [.bool l[i].rows[j].f.n.neg, x, .bool l[i].rows[j].f.d.neg, y]) = some (cellsOf [.bool l[i].rows[j].f.n.neg, x, .bool l[i].rows[j].f.d.neg, y]) := zhs (by
    show (true && (zj0 .nilslice x && (true && (zj0 .nilslice y && true)))) = true
    rw [zbi hx, zbi hy]; rfl)
   have e1 := pv36 hx hy fr.2.2.2.1
   have hs := zhe fr.2.2.2.1
   have ej : zah .i64 ((j : Int) + 1) = ((j + 1 : Nat) : Int) := by rw [zak (by omega) (by omega)]; omega
   simp only [zaa, g3, g5]; rw [k1, zaa, fa, zaa, ld, zaa, hz, zaa]; simp only [cellsOf, zc2, zet, yaa, yab]; rw [q36, e1, zaa, zag, zaa, ej, zak (by omega) (by omega)]
   exact ih (j + 1) _ (by omega) (by omega) (by omega) hQ
  ·rw [if_neg h2] at hQ ⊢
   rw [ei]; exact hQ
theorem zyh (hb : RSl t 3 (p.tables.map zb8.d) b) (hc : RSl t 24 (p.clauses.map za2.d) c) (hp : p.fit) : ∀ (m i : Nat) (n : Int), i + m = p.tables.length -> 0 <= n -> n < 1152921504606846976 -> jp 13 6 [.int .i64 2000, .int .i64 n, .int .i64 (i : Int), .str p.name, a, b, c] t (fun v s => v = .int .i64 (zdr p.clauses (zg2 (p.tables.drop i) n)) /\ s = t) := by
 have hnt := hp.ntables
 have hnc := hp.nclauses
 unfold zgc at hnt hnc; have fin : ∀ n : Int, 0 <= n -> n < 1152921504606846976 -> jp 13 14 [.int .i64 2000, .int .i64 n, .int .i64 0, .str p.name, a, b, c] t (fun v s => v = .int .i64 (zdr p.clauses n) /\ s = t) := by
  intro n h0 h1; have := zvp (p := p) (a := a) (b := b) hc hnc hp.clauses p.clauses.length 0 n (by omega) h0 h1
  rw [List.drop_zero] at this; exact this
 intro m; induction m with
 | zero =>
  intro i n hi h0 h1; refine j13_6 _ _ _ _ _ _ _ ?_
  simp only [zzf2, wpT, hb.len, zaa, zag, yag, zaw]; rw [if_neg (by omega), yau (by omega)]
  exact fin n h0 h1
 | succ m ih =>
  intro i n hi h0 h1; have hlt : i < p.tables.length := by omega
  obtain ⟨q, o, v, g1, g2, g3, g4, g5, g6⟩ := zqx hb hlt
  have hfit := hp.tables _ (List.getElem_mem hlt)
  obtain ⟨f1, f2, f3⟩ := hfit
  unfold zgc at f1; refine j13_6 _ _ _ _ _ _ _ ?_
  simp only [zzf2, wpT, hb.len, zaa, zag, yag, zaw, zc9]; rw [if_pos (by omega), yam hlt]
  unfold zg2; by_cases h2 : n <= 2000
  ·rw [if_pos h2, if_pos h2, g1, zaa, g2, zaa, g4, zaa, zb9, zaa, zf8, zzc2, zak (n := (p.tables[i].name.length : Int) / 30) (by omega) (by omega), zak (by omega) (by omega)]
   have hr := zob p.tables[i].rows (n + (p.tables[i].name.length : Int) / 30) f3 (by omega)
   refine z6e (p := p) (a := a) (c := c) hb hp.tables hlt (by omega) p.tables[i].rows.length 0 _ (by omega) (by omega) (by omega) ?_
   rw [List.drop_zero]; exact ih (i + 1) _ (by omega) (by omega) (by omega)
  ·rw [if_neg h2, if_neg h2]
   exact fin n h0 h1
theorem z6f (ha : RSl t 3 (p.defs.map zxr.d) a) (hb : RSl t 3 (p.tables.map zb8.d) b) (hc : RSl t 24 (p.clauses.map za2.d) c) (hp : p.fit) : ∀ (m i : Nat) (n : Int), i + m = p.defs.length -> 0 <= n -> n < 1152921504606846976 -> jp 13 2 [.int .i64 2000, .int .i64 n, .int .i64 (i : Int), .str p.name, a, b, c] t (fun v s => v = .int .i64 (zdr p.clauses (zg2 p.tables (zo3 (p.defs.drop i) n))) /\ s = t) := by
 have hnd := hp.ndefs
 unfold zgc at hnd; have fin : ∀ n : Int, 0 <= n -> n < 1152921504606846976 -> jp 13 6 [.int .i64 2000, .int .i64 n, .int .i64 0, .str p.name, a, b, c] t (fun v s => v = .int .i64 (zdr p.clauses (zg2 p.tables n)) /\ s = t) := by
  intro n h0 h1; have := zyh (a := a) hb hc hp p.tables.length 0 n (by omega) h0 h1
  rw [List.drop_zero] at this; exact this
 intro m; induction m with
 | zero =>
  intro i n hi h0 h1; refine j13_2 _ _ _ _ _ _ _ ?_
  simp only [zzf3, wpT, ha.len, zaa, zag, yag, zaw]; rw [if_neg (by omega), yau (by omega)]
  exact fin n h0 h1
 | succ m ih =>
  intro i n hi h0 h1; have hlt : i < p.defs.length := by omega
  obtain ⟨q, o, cs, g1, g2, g3, _, g5⟩ := zj2.at sl22 (by simp) ha (i := i) (d := p.defs[i].d) (by simp [yae hlt])
  have g5 := rd_def g5
  subst g5; have fa : zaj C19 79 0 (.ptr q o) = some (.ptr q (o + 0)) := by kernel_rfl
  have ld : zap C19 9 ⟨0, t⟩ (.ptr q (o + 0)) = some (.str p.defs[i].name) := g3.load1 ty9 rfl rfl
  have hfit := hp.defs _ (List.getElem_mem hlt)
  have f1 := hfit.1
  unfold zgc at f1; have ei : zah .i64 ((i : Int) + 1) = ((i + 1 : Nat) : Int) := by rw [zak (by omega) (by omega)]; omega
  refine j13_2 _ _ _ _ _ _ _ ?_
  simp only [zzf3, wpT, ha.len, zaa, zag, yag, zaw, zc9]; rw [if_pos (by omega), yam hlt]
  unfold zo3; by_cases h2 : n <= 2000
  ·rw [if_pos h2, if_pos h2, g1, zaa, fa, zaa, ld, zaa, zb9, zaa, zf8, zzc2, ei, zak (n := (p.defs[i].name.length : Int) / 30) (by omega) (by omega), zak (by omega) (by omega)]
   exact ih (i + 1) _ (by omega) (by omega) (by omega)
  ·rw [if_neg h2, if_neg h2]
   exact fin n h0 h1
theorem zzba {cs : List zab} (hp : p.fit) (h : RD t p.d cs) : pvC C19 F 13 [.agg cs, .int .i64 2000] t = some (.int .i64 (sizeP p)) := by
 obtain ⟨a, b, c, rfl, ha, hb, hc⟩ := zp8 h
 have p1 := hp.name
 have p2 := hp.ndefs
 have p3 := hp.ntables
 have p4 := hp.nclauses
 unfold zgc at p1 p2 p3 p4; refine zbj.2 (w13 _ _ _ _ _ ?_)
 simp only [t13, wpT, ha.len, hb.len, hc.len, zaa, zag, yag, zf8, zzc2]; rw [zak (n := (p.name.length : Int) / 30) (by omega) (by omega), zak (n := 1 + (p.name.length : Int) / 30) (by omega) (by omega), zak (n := 1 + (p.name.length : Int) / 30 + (p.defs.length : Int)) (by omega) (by omega), zak (n := 1 + (p.name.length : Int) / 30 + (p.defs.length : Int) + (p.tables.length : Int)) (by omega) (by omega), zak (by omega) (by omega)]
 have := z6f ha hb hc hp p.defs.length 0 (1 + (p.name.length : Int) / 30 + p.defs.length + p.tables.length + p.clauses.length) (by omega) (by omega) (by omega)
 rw [List.drop_zero] at this; exact this
end
end Go.Proofs
namespace Go.Proofs
open Go Go.Am
variable [zcg]
variable {t : Tr zam}
def zoq : List (List Nat) := [[], [], [], [52], [52], [], [50, 32, 50, 50], [50, 50, 32, 51, 51, 32, 53, 53, 32, 54, 54, 32, 52, 53, 32, 52, 54], [50, 50, 32, 51, 51, 32, 53, 53, 32, 54, 54, 32, 52, 52, 32, 52, 53, 32, 52, 54], [50, 50, 32, 51, 50, 32, 50, 51], [50, 50, 32, 51, 51, 32, 51, 50], [50, 50, 32, 51, 51, 32, 52, 52, 32, 53, 53, 32, 54, 54], [50, 50, 32, 51, 51, 32, 52, 52, 32, 53, 53, 32, 54, 54], [50, 50, 32, 51, 51, 32, 52, 52, 32, 53, 53, 32, 54, 54], [49, 49, 32, 50, 50, 32, 51, 51, 32, 52, 52, 32, 53, 53, 32, 54, 54], [], [], [49], [], [50, 50, 32, 51, 51], [52, 52], [52, 52], [52, 52, 54], [52, 52], [50], [50, 32, 51, 32, 53, 32, 54], [52]]
def z18 (t : Tr zam) : Prop := At t 0 0 (zoq.map zab.str)
theorem z18.mono {t' : Tr zam} (h : z18 t) (k : TLe t t') : z18 t' := At.mono k h
def fstW (s : List Nat) : List Nat := match zzc7 [32] s with | some p => p.1 | none => s
def argT (s : List Nat) : Int × Int := if s = [] then (1, 0) else ((fstW s).length, (fstW s).length)
def zpv (op : Nat) : Bool := op == 1 || op == 2 || op == 5 || op == 6 || op == 15 || op == 16 || op == 18
theorem zxj : ∀ s ∈ zoq, s.length < 100 := by decide
theorem z91 : ∀ k, k < 27 -> zpv k = false -> ∀ s, zoq[k]? = some s -> argT s = zrc k := by
 have h : ((List.range 27).all fun k => zpv k || (match zoq[k]? with | some s => decide (argT s = zrc k) | none => true)) = true := by kernel_rfl
 intro k hk hs s he; have := ybc.1 h k (List.mem_range.2 hk)
 rw [hs, he, Bool.false_or] at this; exact of_decide_eq_true this
theorem cut_pv {s : List Nat} (hs : s.length < 100) : ∃ a b, pvC C19 F 238 [.str s, .str [32]] t = some (.tup [.str (fstW s), .str a, .bool b]) := by
 have hg : C19.prims.get 238 = some pCut := by kernel_rfl
 have hb : Nat.blt (zbv s) 4294967281 = true := by rw [zbc]; exact zdi.2 (by omega)
 unfold fstW
 cases hc : zzc7 [32] s with
 | none => exact ⟨[], false, zt2 hg fun H => by unfold pCut; simp only []; rw [hb, hc]; rfl⟩
 | some p => exact ⟨p.2, true, zt2 hg fun H => by unfold pCut; simp only []; rw [hb, hc]; rfl⟩
theorem zzh7 {op : Nat} (hop : op < 256) (hg : z18 t) : pvC C19 F 181 [.int .u8 (op : Int)] t = some (.tup [.int .i64 (zrc op).1, .int .i64 (zrc op).2]) := by
 have w : zah .i64 (op : Int) = (op : Int) := zak (by omega) (by omega)
 have tab : 27 <= op \/ zpv op = false -> wp 181 (.ite (iLe 27 (zah .i64 (op : Int)))
 (.ret (.tup [(.int .i64 1), (.int .i64 0)]))
 (.opt (zaf C19 273 (.ptr 0 0) (.int .u8 (op : Int))) fun a13 => .light (fun m => zap C19 9 ⟨0, m⟩ a13) fun a14 => .asS a14 fun s15 => .ite (zki s15 [])
 (.ret (.tup [(.int .i64 1), (.int .i64 0)]))
 (.opt (zaf C19 273 (.ptr 0 0) (.int .u8 (op : Int))) fun a16 => .light (fun m => zap C19 9 ⟨0, m⟩ a16) fun a17 => .asS a17 fun s18 => .call 238 [(.str s18), (.str [32])] fun a19 =>
 .opt (zas 0 a19) fun a20 => .asS a20 fun s21 => .opt (zas 1 a19) fun a22 => .asS a22 fun s23 => .opt (zas 2 a19) fun a24 => .asB a24 fun b25 => .ret (.tup [(.int .i64 (Int.ofNat (zbv s21))), (.int .i64 (Int.ofNat (zbv s21)))])))) t (fun v' t' => v' = .tup [.int .i64 (zrc op).1, .int .i64 (zrc op).2] /\ t' = t) := by
  intro h; simp only [wpT, w, zc9]; by_cases h27 : 27 <= op
  ·rw [if_pos (by omega)]
   have e : zrc op = (1, 0) := by unfold zrc; repeat rw [if_neg (by omega)]
   rw [e]; (first | exact ⟨rfl, rfl⟩ | exact ⟨rfl, trivial⟩ | trivial)
  ·rw [if_neg (by omega)]
   have hsp : zpv op = false := h.resolve_left h27
   obtain ⟨s, hs⟩ : ∃ s, zoq[op]? = some s := ⟨_, yae (l := zoq) (i := op) (by show op < 27; omega)⟩
   have hN := z91 op (by omega) hsp s hs
   have hsm := zxj s (List.mem_of_getElem? hs)
   have ia : zaf C19 273 (.ptr 0 0) (.int .u8 (op : Int)) = some (.ptr 0 (0 + op * 1)) := by
    unfold zaf; have e1 : (zab.int .u8 (op : Int)).asNat = some op := rfl
    rw [ty273, zac, e1, zac]; simp only [zab.asSlice, zab.asPtr, zac, zcs.asArr]; rw [ty9, zac, zdi.2 (by omega)]
    rfl
   have ld : zap C19 9 ⟨0, t⟩ (.ptr 0 (0 + op * 1)) = some (.str s) := by
    have := At.load1 (C := C19) (j := op) (a := .str s) hg ty9 rfl (by rw [yav, hs]; rfl)
    rw [show 0 + op * 1 = 0 + op by omega]; exact this
   obtain ⟨a, b, hc⟩ := cut_pv (t := t) hsm
   rw [ia, zaa, ld, zaa, zb9, zaa]; unfold argT at hN; by_cases h0 : s = []
   ·rw [if_pos ((zf0 _ _).2 h0)]
    rw [if_pos h0] at hN; rw [<- hN]; (first | exact ⟨rfl, rfl⟩ | exact ⟨rfl, trivial⟩ | trivial)
   ·rw [if_neg (fun e => h0 ((zf0 _ _).1 e))]
    rw [if_neg h0] at hN; simp only [zaa, ld, zb9]; rw [q238, hc]; simp only [zaa, zas, zab.asTup, zac, zbh, yaa, yab, zb9, zaz, zf8]; rw [<- hN]; (first | exact ⟨rfl, rfl⟩ | exact ⟨rfl, trivial⟩ | trivial)
 refine zbj.2 (w181 _ ?_)
 have pos : ∀ {k : Nat} {x y : T} {Q : zav}, op = k -> wp 181 x t Q -> wp 181 (.ite (iEq (op : Int) (k : Int)) x y) t Q := fun h hx => zbn (zda.2 (by omega)) hx
 have neg : ∀ {k : Nat} {x y : T} {Q : zav}, op ≠ k -> wp 181 y t Q -> wp 181 (.ite (iEq (op : Int) (k : Int)) x y) t Q := fun h hy => zfe (fun e => absurd (zda.1 e) (by omega)) hy
 unfold t181; by_cases h1 : op = 1
 ·refine pos h1 (pos h1 ?_); subst h1; exact ⟨rfl, rfl⟩
 ·refine neg h1 ?_
  by_cases h2 : op = 2
  ·refine pos h2 ?_; subst h2; exact ⟨rfl, rfl⟩
  ·refine neg h2 ?_
   by_cases h5 : op = 5
   ·refine pos h5 ?_; subst h5; exact ⟨rfl, rfl⟩
   ·refine neg h5 ?_
    by_cases h6 : op = 6
    ·refine pos h6 ?_; subst h6; exact ⟨rfl, rfl⟩
    ·refine neg h6 ?_
     by_cases h15 : op = 15
     ·refine pos h15 (pos h15 ?_); subst h15; exact ⟨rfl, rfl⟩
     ·refine neg h15 ?_
      by_cases h16 : op = 16
      ·refine pos h16 ?_; subst h16; exact ⟨rfl, rfl⟩
      ·refine neg h16 ?_
       by_cases h18 : op = 18
       ·refine pos h18 ?_; subst h18; exact ⟨rfl, rfl⟩
       ·refine neg h18 ?_
        exact tab (.inr (by simp [zpv, h1, h2, h5, h6, h15, h16, h18]))
theorem z8z {x : zal} {a b c : zab} (hx : x.fit) (hg : z18 t) (ha : RSl t 1 (zeb x.v.f.n.limbs) a) (hb : RSl t 1 (zeb x.v.f.d.limbs) b) (hc : RSl t 9 (x.args.map zal.d) c) : pvC C19 F 167 [.agg (zcq x a b c)] t = some (.bool (zds zao x.op x.v x.args.length)) := by
 obtain ⟨op, name, v, args⟩ := x
 simp only [zal.op, zal.name, zal.v, zal.args] at ha hb hc ⊢
 unfold zal.fit at hx; obtain ⟨h1, h2, _, h3, h4, _⟩ := hx
 unfold zgc at h4; have c1 := z4m ha hb h3.2.1
 have c2 := zzh7 (t := t) h1 hg
 refine zbj.2 (w167 _ _ _ _ _ _ _ _ _ ?_)
 simp only [t167, wpT, zal.op, zal.name, zal.v, zal.args, q25, q181, c1, c2, zaa, zaz, zas, zab.asTup, zac, zbh, yaa, yab, zag, hc.len, yag, zda, zo7, z8n, decide_eq_true_eq]
 unfold zds; by_cases h0 : op = 1
 ·rw [if_pos (by omega)]
  cases hv : zao v with
  | false => simp [h0]
  | true =>
   simp only [Bool.true_eq_false, if_false]; by_cases h5 : (zrc op).1 <= (args.length : Int)
   ·rw [if_pos h5]; simp [h5]
   ·rw [if_neg h5]; simp [h5]
 ·rw [if_neg (by omega)]
  by_cases h5 : (zrc op).1 <= (args.length : Int)
  ·rw [if_pos h5]; simp [h5, h0]
  ·rw [if_neg h5]; simp [h5]
end Go.Proofs
namespace Go.Am
open Go Go.RowKit
section
variable {t tf : Tr zam} {C : Ctx}
theorem zor {T el sz : Nat} (hT : zxs C T el sz) {l : List D} {x : zab} (hx : RSl tf sz l x) (ht : TLe tf t) (hl : l.length < 1000000) {n : Nat} (hn : t.get n = none) :
  ∃ v k t' tf', zbm C T T .nilslice x ⟨n, t⟩ = some (v, ⟨k, t'⟩) /\ RSl tf' sz l v /\ TLe tf tf' /\ TLe tf' t' /\ TLe t t' /\ Off n t t' /\ Off n tf tf' := by
 obtain ⟨⟨y, hy1, hy2, hy3⟩, ⟨z, hz1, hz2, hz3, hz4, hz5⟩⟩ := hT
 obtain ⟨cl, he, hd⟩ := hx
 have hcl := hd.length
 obtain ⟨hf, hlen⟩ := (he.mono ht).first (n := n)
 have hall := he.len
 have base : zbm C T T .nilslice x ⟨n, t⟩ = zff ⟨n, t⟩ z cl.length cl.flatten := by
  unfold zbm zgh; rw [hy1, zac, zac, hy3]; simp only [Bool.not_false, zay]; rw [hy2, zac, hz1, zac, hlen, zac, hz2, hf, zac]; rfl
 have hfl : zbv cl.flatten = cl.length * sz := by rw [zbc]; exact zfy hall
 have ok : ziy z 0 0 cl.length cl.flatten = true := by
  unfold ziy; have h1 : Nat.blt (0 + cl.length + 0) 1000000000 = true := zdi.2 (by omega)
  have h2 : Nat.blt ((0 + cl.length + 0) * z.bytes) 1000000000 = true := zdi.2 (by
   have := Nat.mul_le_mul (show 0 + cl.length + 0 <= 1000000 by omega) hz4
   omega)
  have h3 : Nat.blt z.bytes 1000000000 = true := zdi.2 (by omega)
  have h4 : (!Nat.beq z.size 0) = true := by
   cases hq : Nat.beq z.size 0 with
   | true => have := zcz.1 hq; omega
   | false => rfl
  have h5 : Nat.beq (zbv cl.flatten) (cl.length * z.size) = true := by rw [hfl, hz2]; exact zcz.2 rfl
  have h6 : Nat.beq (zbv z.zero) z.size = true := by rw [hz3, hz2]; exact zcz.2 rfl
  rw [h1, h2, h3, h4, h5, h6]; rfl
 have hfn : tf.get n = none := by
  cases hq : tf.get n with
  | none => rfl
  | some u => rw [ht _ _ hq] at hn; cases hn
 by_cases h0 : cl.length = 0
 ·have : cl = [] := ybd.1 h0
  subst this; refine ⟨.nilslice, n, t, tf, ?_, ⟨[], .inl ⟨rfl, rfl⟩, hd⟩, TLe.refl _, ht, TLe.refl _, Off.refl _ _, Off.refl _ _⟩
  rw [base]; rfl
 ·have hb : Nat.beq cl.length 0 = false := by
   cases hq : Nat.beq cl.length 0 with
   | true => exact absurd (zcz.1 hq) h0
   | false => rfl
  refine ⟨.slice n 0 cl.length cl.length, n + 1, t.set n (.cells (Tr.ofList cl.flatten) (zbv cl.flatten) (some z.size)), tf.set n (.cells (Tr.ofList cl.flatten) (zbv cl.flatten) (some z.size)), ?_, ⟨cl, zmy hall (by rw [Tr.get_set, if_pos rfl]) (.inr (by rw [hz2])), RDs.mono (zdb hfn _).1 _ _ hd⟩, (zdb hfn _).1, fun k u hk => ?_, (zdb hn _).1, (zdb hn _).2, (zdb hfn _).2⟩
  ·rw [base]
   unfold zff; rw [hb, cond_false, ok]; rfl
  ·rw [Tr.get_set] at hk ⊢
   split at hk
   ·rename_i e; rw [if_pos e]; exact hk
   ·rename_i e; rw [if_neg e]; exact ht _ _ hk
theorem zzx {T el b k m cap n : Nat} {cs : List zab} {lo : Option Nat} {x : zab} {cm : List (List zab)} (hT : zxs C T el 1) (hc : Cel t b lo cs) (hb : C.base <= b) (hx : zhp t 1 x cm) (hm : cm.length = m) (h0 : 0 < m) (hk : k + m <= cap) (hcap : cap <= cs.length) (hone : ∀ a ∈ cm.flatten, zab.one a = true) :
  ∃ t', zbm C T T (.slice b 0 k cap) x ⟨n, t⟩ = some (.slice b 0 (k + m) cap, ⟨n, t'⟩) /\ Cel t' b lo (zif cs k cm.flatten) /\ Off b t t' := by
 obtain ⟨⟨y, hy1, hy2, hy3⟩, ⟨z, hz1, hz2, hz3, hz4, hz5⟩⟩ := hT
 obtain ⟨hf, hlen⟩ := hx.first (n := n)
 have hfl := zfy hx.len
 rw [Nat.mul_one, hm] at hfl; obtain ⟨c, h1, h2⟩ := hc
 have hne : cm.flatten ≠ [] := by intro e; rw [e] at hfl; simp at hfl; omega
 refine ⟨t.set b (.cells (c.setMany cm.flatten k) cs.length lo), ?_, ⟨c.setMany cm.flatten k, by rw [Tr.get_set, if_pos rfl, zml (by omega)], fun j a hj => ?_⟩, fun d hd => by rw [Tr.get_set, if_neg hd]⟩
 ·unfold zbm zgh
  rw [hy1, zac, zac, hy3]; simp only [Bool.not_false, zay]; rw [hy2, zac, hz1, zac, hlen, zac, hz2, hf, zac]; simp only [zab.asSlice, hm]; rw [zj1.2 hk, cond_true]
  unfold zfx
  cases hq : cm.flatten with
  | nil => exact absurd hq hne
  | cons a r =>
   simp only [hz2, Nat.mul_one, yax]; rw [<- hq]; unfold zh1 za1; have e2 : (!Nat.blt b C.base) = true := by
    cases hq : Nat.blt b C.base with
    | true => have := zdi.1 hq; omega
    | false => rfl
   rw [e2, zay, h1, zac]; simp only [zam.asCells, zac]; have e3 : Nat.ble (k + zbv cm.flatten) cs.length = true := by rw [zbc]; exact zj1.2 (by omega)
   have e4 : zd1 zab.one cm.flatten = true := by rw [zca]; exact ybc.2 hone
   rw [e3, e4]; rfl
 ·rw [zka (by omega)] at hj
  rw [Tr.get_setMany]; split
  ·rename_i e; rw [if_pos e] at hj; exact hj
  ·rename_i e; rw [if_neg e] at hj; exact h2 j a hj
def zgl (l : List Nat) : List zab := l.map fun (n : Nat) => zab.int .u8 (n : Int)
theorem z3v {S Dt b k cap el : Nat} {cs : List zab} {lo : Option Nat} {l : List Nat} {yS yD yE : ATy} (hS : C.tys.get S = some yS) (hD : C.tys.get Dt = some yD) (h1 : yD.desc.asInt = none) (h2 : yD.desc.isString = true) (h3 : yS.desc.asSlice = some el) (h4 : C.tys.get el = some yE) (h5 : yE.desc.asInt = some .u8)
  (hc : Cel t b lo cs) (hk : l.length = k) (hl : ∀ (j : Nat) x, l[j]? = some x -> cs[j]? = some (.int .u8 (x : Int))) (hlt : za6 256 l) : zl7 C S Dt ⟨0, t⟩ (.slice b 0 k cap) = some (.str l) := by
 obtain ⟨c, g1, g2⟩ := hc
 unfold zl7 zn0; rw [hS, zac, hD, zac, h1]; simp only []; rw [h2, zay]; have e1 : Nat.beq (zab.slice b 0 k cap).tag 2 = false := rfl
 rw [e1, cond_false, h3, zac, h4, zac, h5, zac, ze2.2 rfl, zay]; unfold zi3; simp only [zab.asSlice]; unfold za1; rw [g1, zac]; simp only [zam.asCells, zac]
 have hm : ∀ (l : List Nat) (off : Nat), (∀ (j : Nat) x, l[j]? = some x -> c.get (off + j) = some (.int .u8 (x : Int))) -> c.many l.length off = some (zgl l) := by
  intro l; induction l with
  | nil => intro off _; rfl
  | cons x l ih =>
   intro off h; rw [yao, Tr.many_succ]; have := h 0 x rfl
   rw [Nat.add_zero] at this; rw [this, zac, ih (off + 1) (fun j y hj => by rw [show off + 1 + j = off + (j + 1) by omega]; exact h (j + 1) y (by simpa using hj)), zac]
   rfl
 subst hk; rw [hm l 0 (fun j x hj => by rw [yax]; exact g2 _ _ (hl j x hj)), zac]
 have hb : ∀ (l : List Nat), za6 256 l -> zgd zkm (zgl l) = some l := by
  intro l; induction l with
  | nil => intro _; rfl
  | cons x l ih =>
   intro h; have e : zkm (.int .u8 (x : Int)) = some x := by
    unfold zkm; have e1 : zkc (x : Int) = some x := rfl
    simp only [zab.asIntK, zac]; rw [ze2.2 rfl, zay, e1, zac, zdi.2 (h x (by simp))]; rfl
   show zgd zkm (.int .u8 (x : Int) :: zgl l) = _
   rw [zdf, e, zac, ih fun y hy => h y (by simp [hy]), zac]
 rw [hb l hlt, zac]
theorem z7j {T el cap : Nat} {y z : ATy} {k : IntKind} (hT : C.tys.get T = some y) (hel : y.desc.asSlice = some el) (hz : C.tys.get el = some z) (hzero : z.zero = [.int k 0]) (hs : z.size = 1) (hby : z.bytes <= 8) (hn : cap < 1000000) {b : Nat} (hb : t.get b = none) :
  ∃ t', zce C T (.int .i64 0) (.int .i64 (cap : Int)) ⟨b, t⟩ = some (.slice b 0 0 cap, ⟨b + 1, t'⟩) /\ Cel t' b none (List.replicate cap (.int k 0)) /\ TLe t t' /\ Off b t t' := by
 have hrep : ∀ n, zsk [zab.int k 0] n = List.replicate n (.int k 0) := by
  intro n; induction n with
  | zero => rfl
  | succ n ih => unfold zsk; rw [ih, zcj, List.replicate_succ]; rfl
 obtain ⟨t', h1, h2, h3, h4⟩ := zqi hb (List.replicate cap (.int k 0)) none
 refine ⟨t', ?_, h2, h3, h4⟩
 unfold zce; rw [hT, zac, hel, zac, hz, zac]; have e1 : (zab.int .i64 (cap : Int)).asNat = some cap := rfl
 have e0 : (zab.int .i64 0).asNat = some 0 := rfl
 rw [e1, e0, zac, zac]; have e2 : (Nat.ble 0 cap && Nat.blt cap 1000000 && Nat.blt (cap * z.bytes) 1000000000 && Nat.beq (zbv z.zero) z.size) = true := by
  rw [hzero, hs, show Nat.ble 0 cap = true from zj1.2 (Nat.zero_le _), zdi.2 hn]
  have : cap * z.bytes < 1000000000 := by
   have := Nat.mul_le_mul (Nat.le_of_lt hn) hby
   omega
  rw [zdi.2 this]; rfl
 rw [e2, zay, hzero, hrep, h1]
end
end Go.Am
namespace Go.Proofs
open Go Go.Am
variable [zcg]
variable {t : Tr zam}
def zzt (b : Bool) : List Nat := if b then [116, 114, 117, 101] else [102, 97, 108, 115, 101]
def zfi : List Nat -> List Nat
 | [] => []
 | x :: l => x / 256 :: x % 256 :: zfi l
def keyW (w : zdn) : List Nat := 44 :: zzt w.neg ++ zy5 ((2 * w.limbs.length : Nat) : Int) ++ [44] ++ zfi w.limbs
def za9 (v : zc3) : List Nat := zy5 (v.kind : Int) ++ [44] ++ zy5 v.i ++ keyW v.f.n ++ keyW v.f.d
theorem zi4 : ∀ l, (zfi l).length = 2 * l.length
 | [] => rfl
 | x :: l => by simp [zfi, zi4 l]; omega
theorem ztb : ∀ (l : List Nat) (x : Nat), zfi (l ++ [x]) = zfi l ++ [x / 256, x % 256]
 | [], x => rfl
 | y :: l, x => by simp [zfi, ztb l x]
theorem zxc : ∀ {l : List Nat}, za6 65536 l -> za6 256 (zfi l)
 | [], _ => fun x hx => (by cases hx)
 | y :: l, h => fun x hx => by
  have hy := h y (by simp)
  simp only [zfi, yat] at hx; rcases hx with rfl | rfl | hx
  ·omega
  ·omega
  ·exact zxc (l := l) (fun z hz => h z (by simp [hz])) x hx
theorem zo9 {n : Int} (h0 : -9223372036854775808 <= n) (h1 : n < 9223372036854775808) : (zy5 n).length <= 21 := by
 unfold zy5; rw [yag]; exact Lib.itoa_length_le n h0 (by omega)
theorem zy4 {n : Int} (h0 : -9223372036854775808 <= n) (h1 : n < 9223372036854775808) : pvC C19 F 291 [.int .i64 n] t = some (.str (zy5 n)) := by
 have hg : C19.prims.get 291 = some z66 := by kernel_rfl
 refine zt2 hg fun H => ?_
 unfold z66; simp only []; rw [zc9.2 h0, zaw.2 h1]; rfl
theorem zzcy {b : Bool} : pvC C19 F 246 [.bool b] t = some (.str (zzt b)) := by
 refine zbj.2 (w246 _ ?_)
 simp only [t246, wpT, q287]; refine w287 _ ?_
 cases b <;> simp only [t287, wpT, if_true, yar, if_false, zb9, zaa] <;> (first | exact ⟨rfl, rfl⟩ | exact ⟨rfl, trivial⟩ | trivial)
theorem zlw {a b : List Nat} (h : a.length + b.length < 4611686018427387904) : z6h a b = some (.str (a ++ b)) := by
 unfold z6h; rw [zbc, zbc, zdi.2 h, zcj]; rfl
theorem el188 : zxs C19 188 5 1 := ⟨⟨_, zzar, rfl, rfl⟩, ⟨_, ty5, rfl, rfl, by decide, by decide⟩⟩
theorem z8d {s : List Nat} {f : zem} {fa fb : zab} {j : Nat} {w : zdn} {u : zab} {b : Nat} {t0 : Tr zam} {Q : zav} (hu : RSl t0 1 (zeb w.limbs) u) (hl : w.limbs.length < 400) (hlt : za6 65536 w.limbs) (hs : s.length < 4000) (hbase : C19.base <= b) (hb : t0.get b = none)
  (hQ : ∀ t', TLe t0 t' -> jp 276 2 [.str (s ++ keyW w), .agg [.bool f.n.neg, fa, .bool f.d.neg, fb], .int .i64 (zah .i64 ((j : Int) + 1))] t' Q) :
  ∀ (m i : Nat) (t' : Tr zam), i + m = w.limbs.length -> TLe t0 t' -> Cel t' b none (zgl (zfi (w.limbs.take i)) ++ List.replicate (2 * m + 1) (.int .u8 0)) →
  jp 276 6 [.str s, .slice b 0 (2 * i) (2 * w.limbs.length + 1), .agg [.bool f.n.neg, fa, .bool f.d.neg, fb], .int .i64 (j : Int), u, .int .i64 (w.limbs.length : Int), .int .i64 (i : Int), .bool w.neg, u] t' Q := by
 intro m; induction m with
 | zero =>
  intro i t' hi ht hc; refine zzex _ _ _ _ _ _ _ _ _ _ _ _ ?_
  rw [ybb (by omega)] at hc
  have lv : za8 (.slice b 0 (2 * i) (2 * w.limbs.length + 1)) = some (.int .i64 ((2 * w.limbs.length : Nat) : Int)) := by
   have : i = w.limbs.length := by omega
   subst this; rfl
  have cv : zl7 C19 188 9 ⟨0, t'⟩ (.slice b 0 (2 * i) (2 * w.limbs.length + 1)) = some (.str (zfi w.limbs)) := by
   refine z3v zzar ty9 rfl rfl rfl ty5 rfl hc (by rw [zi4]; omega) (fun k x hk => ?_) (zxc hlt)
   rw [List.getElem?_append_left (by simp [zgl, (yad.1 hk).1])]
   simp [zgl, hk]
  have hlb := zi4 w.limbs
  have hli := zo9 (n := ((2 * w.limbs.length : Nat) : Int)) (by omega) (by omega)
  have hbt : (zzt w.neg).length <= 5 := by unfold zzt; split <;> simp
  simp only [z5w, wpT, zaw]; rw [if_neg (by omega)]
  simp only [lv, cv, zaa, zag, zb9, zd6, zmf, if_true, q246, zzcy]; rw [zlw (a := [44]) (b := zzt w.neg) (by simp; omega)]
  simp only [zaa, zb9, q291]; rw [zy4 (by omega) (by omega)]
  simp only [zaa, zb9, cv, zmf, if_true]; rw [zlw (by simp only [yah, yao, yay]; omega)]
  simp only [zaa, zb9]; rw [zlw (by simp only [yah, yao, yay]; omega)]
  simp only [zaa, zb9]; rw [zlw (by simp only [yah, yao, yay]; omega)]
  simp only [zaa, zb9]; rw [zlw (by simp only [yah, yao, yay]; omega)]
  simp only [zaa, zb9]; exact hQ t' ht
 | succ m ih =>
  intro i t' hi ht hc; have hlt1 : i < w.limbs.length := by omega
  obtain ⟨x, hx⟩ := getElem?_of_lt hlt1
  have hx16 : x < 65536 := zbs hlt hx
  obtain ⟨p, off, g1, g2⟩ := RSl.idx (C := C19) zza9 (hu.mono ht) hx
  refine zzex _ _ _ _ _ _ _ _ _ _ _ _ ?_
  simp only [z5w, wpT, zaw]; have e1 : zah .u8 (Int.fdiv (x : Int) 256) = ((x / 256 : Nat) : Int) := by
   rw [show Int.fdiv (x : Int) 256 = ((x / 256 : Nat) : Int) from zey _ 256, z4i (by omega) (by omega)]
  have e2 : zah .u8 (x : Int) = ((x % 256 : Nat) : Int) := by
   have : zah .u8 (x : Int) = (x : Int) % 256 := by rw [zc4]; simp only [IntKind.wrap, IntKind.bits, IntKind.signed]; simp
   rw [this]; omega
  rw [if_pos (by omega), g1, zaa, g2, zaa, zag, zaa, e1, e2]
  intro n hn _; obtain ⟨t1, a1, a2, a3, a4⟩ := zhh (C := C19) (T := 188) (el := 5) (sz := 1) (n := 2) (cl := [[.int .u8 ((x / 256 : Nat) : Int)], [.int .u8 ((x % 256 : Nat) : Int)]]) (ps := [(0, .int .u8 ((x / 256 : Nat) : Int)), (1, .int .u8 ((x % 256 : Nat) : Int))]) zzar rfl ty5 rfl rfl (by decide) rfl (fun i cs hi => by
   rcases i with _ | _ | i
   ·simp at hi; subst hi; rfl
   ·simp at hi; subst hi; rfl
   ·simp at hi) rfl hn
  have hbn : b ≠ n := by
   intro e; subst e; obtain ⟨c, hc1, _⟩ := hc
   rw [hc1] at hn; cases hn
  rw [a1, zaa]; intro k _ _; have htl : (w.limbs.take i).length = i := by simp; omega
  have hbl : (zgl (zfi (w.limbs.take i))).length = 2 * i := by simp [zgl, zi4, htl]
  obtain ⟨t2, b1, b2, b3⟩ := zzx (C := C19) (n := k) (k := 2 * i) (m := 2) (cap := 2 * w.limbs.length + 1) el188 (hc.off (a4 b hbn)) hbase a2 rfl (by decide) (by omega) (by simp [hbl]; omega) (by
   intro a ha; simp only [List.flatten_cons, List.flatten_nil, ybe, List.singleton_append, yat, List.not_mem_nil, or_false] at ha; rcases ha with rfl | rfl <;> rfl)
  have b1' : zbm C19 188 188 (.slice b 0 (2 * i) (2 * w.limbs.length + 1)) (.slice n 0 2 2) ⟨k, t1⟩ = some (.slice b 0 (2 * i + 2) (2 * w.limbs.length + 1), ⟨k, t2⟩) := b1
  rw [b1', zaa, zak (by omega) (by omega)]
  have hcells : zif (zgl (zfi (w.limbs.take i)) ++ List.replicate (2 * (m + 1) + 1) (.int .u8 0)) (2 * i) [.int .u8 ((x / 256 : Nat) : Int), .int .u8 ((x % 256 : Nat) : Int)] = zgl (zfi (w.limbs.take (i + 1))) ++ List.replicate (2 * m + 1) (.int .u8 0) := by
   have hdr : (zgl (zfi (w.limbs.take i)) ++ List.replicate (2 * (m + 1) + 1) (zab.int .u8 0)).drop (2 * i + 2) = List.replicate (2 * m + 1) (.int .u8 0) := by
    rw [List.drop_append, List.drop_of_length_le (by omega), hbl, List.nil_append, List.drop_replicate]; congr 1; omega
   unfold zif; rw [List.take_left' hbl]; show zgl (zfi (w.limbs.take i)) ++ ([.int .u8 ((x / 256 : Nat) : Int), .int .u8 ((x % 256 : Nat) : Int)] ++ (zgl (zfi (w.limbs.take i)) ++ List.replicate (2 * (m + 1) + 1) (zab.int .u8 0)).drop (2 * i + 2)) = _
   rw [hdr, ze7 hx, ztb]; unfold zgl; rw [List.map_append, yba]; rfl
  have b2' : Cel t2 b none (zgl (zfi (w.limbs.take (i + 1))) ++ List.replicate (2 * m + 1) (.int .u8 0)) := by rw [<- hcells]; exact b2
  have := ih (i + 1) t2 (by omega) ((ht.trans a3).off hb b3) b2'
  rw [show 2 * (i + 1) = 2 * i + 2 by omega, show ((i + 1 : Nat) : Int) = (i : Int) + 1 by omega] at this
  exact this
theorem zwm {s : List Nat} {f : zem} {fa fb : zab} {j : Nat} {w : zdn} {u : zab} {Q : zav} (hj : j < 2) (hv : zjq C19 325 (.agg [.bool f.n.neg, fa, .bool f.d.neg, fb]) (.int .i64 (j : Int)) = some (.agg [.bool w.neg, u])) (hu : RSl t 1 (zeb w.limbs) u) (hl : w.limbs.length < 400) (hlt : za6 65536 w.limbs) (hs : s.length < 4000)
  (hQ : ∀ t', TLe t t' -> jp 276 2 [.str (s ++ keyW w), .agg [.bool f.n.neg, fa, .bool f.d.neg, fb], .int .i64 ((j + 1 : Nat) : Int)] t' Q) : jp 276 2 [.str s, .agg [.bool f.n.neg, fa, .bool f.d.neg, fb], .int .i64 (j : Int)] t Q := by
 refine zzey _ _ _ _ _ _ ?_
 simp only [z5x, wpT, zaw]; have hz : zrd [(.bool false), .nilslice] (.agg [.bool w.neg, u]) = some (cellsOf [.bool w.neg, u]) := zhs (by
  show (true && (zj0 .nilslice u && true)) = true
  rw [zbi hu]; rfl)
 have hone : zd1 zab.one [.bool w.neg, u] = true := by rw [zca]; simp only [ybh, List.all_nil, hu.one]; rfl
 rw [if_pos (by omega), hv, zaa, hz, zaa]
 simp only [cellsOf, zc2, zet, yaa, yab]; refine zbn hone ?_
 rw [hu.len, zjm, zaa, zag, zaa]; have e1 : zah .i64 (zah .i64 (2 * (w.limbs.length : Int)) + 1) = ((2 * w.limbs.length + 1 : Nat) : Int) := by
  rw [zak (n := 2 * (w.limbs.length : Int)) (by omega) (by omega), zak (by omega) (by omega)]; omega
 rw [e1]; intro b hb hbase; obtain ⟨t', g1, g2, g3, _⟩ := z7j (C := C19) (k := .u8) (cap := 2 * w.limbs.length + 1) zzar rfl ty5 rfl rfl (by decide) (by omega) hb
 rw [g1, zaa, zaa, zag, zaa]; have ej : zah .i64 ((j : Int) + 1) = ((j + 1 : Nat) : Int) := by rw [zak (by omega) (by omega)]; omega
 exact z8d (f := f) (j := j) hu hl hlt hs hbase hb (fun t2 h2 => by rw [ej]; exact hQ t2 h2) w.limbs.length 0 t' (by omega) g3 (by simpa [zfi, zgl] using g2)
def zc3.short (v : zc3) : Prop := v.f.n.limbs.length < 400 /\ v.f.d.limbs.length < 400
theorem key_ok {v : zc3} {a b : zab} (hv : v.fit) (hs : zc3.short v) (ha : RSl t 1 (zeb v.f.n.limbs) a) (hb : RSl t 1 (zeb v.f.d.limbs) b) : pvC C19 F 276 [.agg [.int .u8 v.kind, .bool v.f.n.neg, a, .bool v.f.d.neg, b, .int .i64 v.i]] t = some (.str (za9 v)) := by
 obtain ⟨h1, h2, h3, h4⟩ := hv
 obtain ⟨_, hn, hd⟩ := h2
 have l1 := zo9 (n := (v.kind : Int)) (by omega) (by omega)
 have l2 := zo9 h3 h4
 have hk : zah .i64 (v.kind : Int) = (v.kind : Int) := zak (by omega) (by omega)
 have v0 : zjq C19 325 (.agg [.bool v.f.n.neg, a, .bool v.f.d.neg, b]) (.int .i64 ((0 : Nat) : Int)) = some (.agg [.bool v.f.n.neg, a]) := by kernel_rfl
 have v1 : zjq C19 325 (.agg [.bool v.f.n.neg, a, .bool v.f.d.neg, b]) (.int .i64 ((0 + 1 : Nat) : Int)) = some (.agg [.bool v.f.d.neg, b]) := by kernel_rfl
 have lk : (keyW v.f.n).length < 1000 := by
  have hbt : (zzt v.f.n.neg).length <= 5 := by unfold zzt; split <;> simp
  have hli := zo9 (n := ((2 * v.f.n.limbs.length : Nat) : Int)) (by omega) (by have := hs.1; omega)
  have := hs.1
  unfold keyW; simp [zi4]
  simp at hli; omega
 refine z21 (w276 _ _ _ _ _ _ ?_)
 simp only [t276, wpT, hk]; rw [q291, zy4 (by omega) (by omega), zaa, zb9, zaa, if_pos zd6, zlw (by simp only [yah, yao, yay]; omega), zaa, zb9, zaa, q291, zy4 h3 h4, zaa, zb9, zaa, zlw (by simp only [yah, yao, yay]; omega), zaa, zb9, zaa]
 simp only [if_true]; refine zwm (f := v.f) (j := 0) (w := v.f.n) (by omega) v0 ha hs.1 hn (by simp; omega) fun t1 k1 => ?_
 refine zwm (f := v.f) (j := 0 + 1) (w := v.f.d) (by omega) v1 (hb.mono k1) hs.2 hd (by simp; omega) fun t2 k2 => ?_
 refine zzey _ _ _ _ _ _ ?_
 simp only [z5x, wpT, zaw]; rw [if_neg (by omega)]
 exact ⟨by unfold za9; rfl, k1.trans k2⟩
end Go.Proofs
namespace Go.Proofs
open Go Go.Am
variable [zcg]
variable {t tf : Tr zam} {key : zc3 -> List Nat} {r : TR} {s : XSt}
theorem _root_.Go.Am.Objs.copy {base : Nat} {L : List Thg} (h : Objs base tf t L) {n : Nat} {t' tf' : Tr zam} (hn : t.get n = none) (h1 : TLe tf tf') (h2 : TLe tf' t') (h3 : Off n t t') (h4 : Off n tf tf') : Objs base tf' t' L :=
 h.keep h1 h2 fun k hk => by
  have : k ≠ n := fun e => h.fresh hn (e ▸ hk)
  exact ⟨h3 k this, by rw [h4 k this]; exact (h.low k hk).2⟩
theorem z08 {w : zdn} {u : zab} (hu : RSl t 1 (zeb w.limbs) u) : RD t w.d [.bool w.neg, u] := by
 unfold zdn.d; rw [zij]; refine ⟨[[.bool w.neg], [u]], rfl, ?_⟩
 simp only [zbd, zbu, zik, zk9]; exact ⟨_, _, rfl, rfl, _, _, rfl, ⟨u, rfl, hu⟩, rfl⟩
theorem z7g {f : zem} {u v : zab} (hu : RSl t 1 (zeb f.n.limbs) u) (hv : RSl t 1 (zeb f.d.limbs) v) : RD t f.dd [.bool f.n.neg, u, .bool f.d.neg, v] := by
 unfold zem.dd; rw [zij]; refine ⟨[[.bool f.n.neg, u], [.bool f.d.neg, v]], rfl, ?_⟩
 rw [zbd]; refine ⟨_, _, rfl, z08 hu, ?_⟩
 rw [zbd]; exact ⟨_, _, rfl, z08 hv, zbu.2 rfl⟩
theorem zzef {x : zc3} {u v : zab} (hu : RSl t 1 (zeb x.f.n.limbs) u) (hv : RSl t 1 (zeb x.f.d.limbs) v) : RD t x.d [.int .u8 x.kind, .bool x.f.n.neg, u, .bool x.f.d.neg, v, .int .i64 x.i] := by
 unfold zc3.d; rw [zij]; refine ⟨[[.int .u8 x.kind], [.bool x.f.n.neg, u, .bool x.f.d.neg, v], [.int .i64 x.i]], rfl, ?_⟩
 rw [zbd]; refine ⟨_, _, rfl, zgn.2 rfl, ?_⟩
 rw [zbd]; refine ⟨_, _, rfl, z7g hu hv, ?_⟩
 rw [zbd]; exact ⟨_, _, rfl, zgn.2 rfl, zbu.2 rfl⟩
theorem el41 : zxs C19 41 227 1 := ⟨⟨_, ty41, rfl, rfl⟩, ⟨_, z2h, rfl, rfl, by decide, by decide⟩⟩
theorem z9k {L : List Thg} {v : zc3} {a b : zab} {Q : zav} (h : Objs C19.base tf t L) (hs : zc3.short v) (ha : RSl tf 1 (zeb v.f.n.limbs) a) (hb : RSl tf 1 (zeb v.f.d.limbs) b)
  (hQ : ∀ tf' t' a' b', TLe tf tf' -> Objs C19.base tf' t' L -> RSl tf' 1 (zeb v.f.n.limbs) a' -> RSl tf' 1 (zeb v.f.d.limbs) b' -> Q (.agg [.int .u8 v.kind, .bool v.f.n.neg, a', .bool v.f.d.neg, b', .int .i64 v.i]) t') :
  Wc C19 F 102 [.agg [.int .u8 v.kind, .bool v.f.n.neg, a, .bool v.f.d.neg, b, .int .i64 v.i]] t Q := by
 refine w102 _ _ _ _ _ _ ?_
 simp only [t102, wpT]; intro n hn _; obtain ⟨a', k, t1, tf1, g1, g2, g3, g4, _, g6, g7⟩ := zor (C := C19) el41 ha h.tle (by rw [zjm]; have := hs.1; omega) hn
 have h1 := h.copy hn g3 g4 g6 g7
 have o1 : zd1 zab.one [a'] = true := by rw [zca]; simp only [ybh, List.all_nil, g2.one]; rfl
 rw [g1, zaa, if_pos o1]; intro m hm _; obtain ⟨b', k', t2, tf2, m1, m2, m3, m4, _, m6, m7⟩ := zor (C := C19) el41 (hb.mono g3) h1.tle (by rw [zjm]; have := hs.2; omega) hm
 have h2 := h1.copy hm m3 m4 m6 m7
 have o2 : zd1 zab.one [b'] = true := by rw [zca]; simp only [ybh, List.all_nil, m2.one]; rfl
 have o3 : zd1 zab.one [.int .u8 v.kind, .bool v.f.n.neg, a', .bool v.f.d.neg, b', .int .i64 v.i] = true := by rw [zca]; simp only [ybh, List.all_nil, g2.one, m2.one]; rfl
 rw [m1, zaa, if_pos o2, if_pos o3]; exact hQ tf2 t2 a' b' (g3.trans m3) h2 (g2.mono m3) m2
theorem zqm {m : Nat} {l : List (List Nat)} {k : List Nat} (h : t.get m = some (.map (zax 0 l))) : zid C19 107 ⟨0, t⟩ (.map m) (.str k) true = some (if k ∈ l then .tup [.int .i64 ((zsx k l : Nat) : Int), .bool true] else .tup [.int .i64 0, .bool false]) := by
 unfold zid; rw [zzas, zac]; simp only [zcs.asMap, zac]; rw [ty9, zac, ty3]; simp only [zac]; unfold zrw zgm; simp only [zab.asMap]; rw [h, zac]; simp only [zam.asMap, zac]
 rw [zs4, yax]; by_cases hk : k ∈ l
 ·rw [if_pos hk, if_pos hk]; rfl
 ·rw [if_neg hk, if_neg hk]; rfl
theorem zpl {m : Nat} {l : List (List Nat)} {k : List Nat} (h : t.get m = some (.map (zax 0 l))) (hb : C19.base <= m) (hk : k ∉ l) :
  ∃ t', (∀ n, zj4 C19 107 (.map m) (.str k) (.int .i64 (l.length : Int)) ⟨n, t⟩ = some (zbr, ⟨n, t'⟩)) /\ t'.get m = some (.map (zax 0 (l ++ [k]))) /\ Off m t t' := by
 refine ⟨t.set m (.map (zax 0 (l ++ [k]))), fun n => ?_, by rw [Tr.get_set, if_pos rfl], fun c hc => by rw [Tr.get_set, if_neg hc]⟩
 unfold zj4; rw [zzas, zac]; simp only [zcs.asMap, zac]; rw [ty9, zac]; simp only [zab.asMap, zac]; have e2 : (!Nat.blt m C19.base) = true := by
  cases hq : Nat.blt m C19.base with
  | true => have := zdi.1 hq; omega
  | false => rfl
 have := zod l 0 hk
 rw [yax] at this; unfold zgm; rw [e2, zay, h, zac]; simp only [zam.asMap, zac]; rw [this, zac]; rfl
theorem el30 : zxs C19 30 9 1 := ⟨⟨_, ty30, rfl, rfl⟩, ⟨_, ty9, rfl, rfl, by decide, by decide⟩⟩
theorem el31 : zxs C19 31 47 6 := ⟨⟨_, ty31, rfl, rfl⟩, ⟨_, ty47, rfl, rfl, by decide, by decide⟩⟩
theorem el32 : zxs C19 32 37 1 := ⟨⟨_, zzfq, rfl, rfl⟩, ⟨_, zzaq, rfl, rfl, by decide, by decide⟩⟩
def addN (l : List (List Nat)) (n : List Nat) : List (List Nat) := if n ∈ l then l else l ++ [n]
def addC (key : zc3 -> List Nat) (l : List zc3) (v : zc3) : List zc3 := if key v ∈ l.map key then l else l ++ [v]
theorem zzgn {n : List Nat} {Q : zav} (h : TS key tf t r s) (hl : s.names.length < 300000)
  (hQ : ∀ t' r', r'.b = r.b -> r'.kp = r.kp -> TS key tf t' r' ⟨addN s.names n, s.consts, s.ws, s.ts, s.code⟩ -> Q (.int .i64 ((zsx n s.names : Nat) : Int)) t') : Wc C19 F 234 [.ptr r.b 0, .str n] t Q := by
 refine w234 _ _ ?_
 simp only [t234, wpT]; rw [zc5, zaa, zgf, zaa, zzfa, zaa, h.ldN, zaa]; simp only [zc5, zaa, zgf, zzhn, zzfa, h.ldM1]; rw [q277]; refine w277 _ _ _ _ ?_
 simp only [t277, wpT]; rw [zqm h.map1, zaa]; have hlen : r.cells.length = 11 := by simp [TR.cells, h.pl]
 unfold addN at hQ; by_cases hk : n ∈ s.names
 ·rw [if_pos hk] at hQ ⊢
  simp only [zas, zab.asTup, zac, zbh, yaa, yab, zaa, zag, zaz, Bool.not_true, yar, if_false]; intro m _ _; obtain ⟨t1, g1, g2, g3⟩ := h.cel.store1 (C := C19) h.baseB.1 (j := 4) (v := r.vn) ty30 rfl (by
   rcases h.ln with ⟨e, _⟩ | ⟨b, cl, c, e, _⟩ <;> rw [e] <;> rfl) h.ln.one (by omega)
  have es : r.cells.set 4 r.vn = r.cells := by
   have := zof (p := r.pl) h.pl (l := [r.vn, r.vc, r.vw, r.vt, .map r.m1, .map r.m2, r.vk]) (k := 0) (v := r.vn)
   exact this
  rw [es] at g2; rw [g1, zaa]; refine hQ t1 r rfl rfl ⟨h.pl, ?_⟩
  exact Objs.upd (A := []) (o := zfm r.b none r.cells) h.os (fun k k1 _ => g3 k (fun e => k1 (by simp [zfm, e]))) (fun k hk => .inl hk) g2 (by simp [zfm]) (h.os.tle.off h.baseB.2 g3)
 ·rw [if_neg hk] at hQ ⊢
  simp only [zas, zab.asTup, zac, zbh, yaa, yab, zaa, zag, zaz, Bool.not_false, if_true, h.ln.len, yag]; intro m0 _ _; have lowM : C19.base <= r.m1 /\ tf.get r.m1 = none := h.os.low r.m1 (by simp [tsL, zfm, zfv])
  obtain ⟨t1, a1, a2, a3⟩ := zpl h.map1 lowM.1 hk
  have o1 : Objs C19.base tf t1 ([zfm r.b none r.cells] ++ zfv r.m1 (zax 0 (s.names ++ [n])) :: [zfv r.m2 (zax 0 (s.consts.map key)), zat C19.base 1 (s.names.map D.str) r.vn, zat C19.base 6 (s.consts.map zc3.d) r.vc, zat C19.base 1 s.ws r.vw, zat C19.base 1 s.ts r.vt, zat C19.base 3 (s.code.map XIns.d) r.vk]) :=
   Objs.upd (o := zfv r.m1 (zax 0 s.names)) h.os (fun k k1 _ => a3 k (fun e => k1 (by simp [zfv, e]))) (fun k hk => .inl hk) a2 (by simp [zfv]) (h.os.tle.off lowM.2 a3)
  rw [a1, zaa]; intro n2 hn2 _; obtain ⟨t2, b1, b2, b3, b4⟩ := zhh (C := C19) (T := 30) (el := 9) (sz := 1) (n := 1) (cl := [[.str n]]) (ps := [(0, .str n)]) ty30 rfl ty9 rfl rfl (by decide) rfl (fun i cs hi => by
   cases i with
   | zero => simp at hi; subst hi; rfl
   | succ i => simp at hi) rfl hn2
  have o2 := o1.junk hn2 b4
  rw [b1, zaa]; intro n3 hn3 hb3; have ln2 : Loose C19.base tf t2 1 (s.names.map D.str) r.vn := o2.ok (zat C19.base 1 (s.names.map D.str) r.vn) (by simp)
  obtain ⟨t3, c1, c2, c3, c4⟩ := zf9 (C := C19) el30 (m := [.str n]) ln2 b2 (by simp [zbd, zbu, zlp]) (by intro a ha; simp at ha; subst ha; rfl) (by simp) (by simp; omega) hn3 hb3 o2.tle
  have ec : (s.names.map D.str).length + [D.str n].length = (s.names ++ [n]).length := by simp
  have hd : s.names.map D.str ++ [D.str n] = (s.names ++ [n]).map D.str := by simp
  rw [ec, hd] at c2; have o3 : Objs C19.base tf t3 ([zfm r.b none r.cells, zfv r.m1 (zax 0 (s.names ++ [n])), zfv r.m2 (zax 0 (s.consts.map key))] ++ zat C19.base 1 ((s.names ++ [n]).map D.str) (.slice n3 0 (s.names ++ [n]).length (s.names ++ [n]).length) :: [zat C19.base 6 (s.consts.map zc3.d) r.vc, zat C19.base 1 s.ws r.vw, zat C19.base 1 s.ts r.vt, zat C19.base 3 (s.code.map XIns.d) r.vk]) := by
   refine Objs.upd (o := zat C19.base 1 (s.names.map D.str) r.vn) o2 (fun k k1 k2 => c4 k ?_ (fun e => k1 (zgx.2 e))) (fun k hk => ?_) c2 (by simp [zat, zjx]) c3
   ·intro e; subst e; exact k2 (by simp [zat, zjx])
   ·have : k = n3 := by simpa [zat, zjx] using hk
    subst this; exact .inr ⟨hn3, hb3⟩
  rw [c1, zaa, ec]; simp only [zas, zab.asTup, zac, zbh, yaa, yab, zaa, zag]; intro m4 _ _; have cel3 : Cel t3 r.b none r.cells := o3.ok (zfm r.b none r.cells) (by simp)
  obtain ⟨t4, g1, g2, g3⟩ := cel3.store1 (C := C19) h.baseB.1 (j := 4) (v := .slice n3 0 (s.names ++ [n]).length (s.names ++ [n]).length) ty30 rfl rfl rfl (by omega)
  have es : r.cells.set 4 (.slice n3 0 (s.names ++ [n]).length (s.names ++ [n]).length) = TR.cells ⟨r.b, r.pl, .slice n3 0 (s.names ++ [n]).length (s.names ++ [n]).length, r.vc, r.vw, r.vt, r.vk, r.m1, r.m2⟩ := zof (k := 0) h.pl
  rw [es] at g2; rw [g1, zaa, <- zua hk]; refine hQ t4 ⟨r.b, r.pl, .slice n3 0 (s.names ++ [n]).length (s.names ++ [n]).length, r.vc, r.vw, r.vt, r.vk, r.m1, r.m2⟩ rfl rfl ⟨h.pl, ?_⟩
  exact Objs.upd (A := []) (o := zfm r.b none r.cells) o3 (fun k k1 _ => g3 k (fun e => k1 (by simp [zfm, e]))) (fun k hk => .inl hk) g2 (by simp [zfm]) (c3.off h.baseB.2 g3)
theorem zqz {v : zc3} {a b : zab} {Q : zav} (h : TS za9 tf t r s) (hl : s.consts.length < 300000) (hv : v.fit) (hs : zc3.short v) (ha : RSl tf 1 (zeb v.f.n.limbs) a) (hb : RSl tf 1 (zeb v.f.d.limbs) b)
  (hQ : ∀ tf' t' r', TLe tf tf' -> r'.b = r.b -> r'.kp = r.kp -> TS za9 tf' t' r' ⟨s.names, addC za9 s.consts v, s.ws, s.ts, s.code⟩ -> Q (.int .i64 ((zsx (za9 v) (s.consts.map za9) : Nat) : Int)) t') : Wc C19 F 233 [.ptr r.b 0, .agg [.int .u8 v.kind, .bool v.f.n.neg, a, .bool v.f.d.neg, b, .int .i64 v.i]] t Q := by
 have hk0 := key_ok hv hs (ha.mono h.os.tle) (hb.mono h.os.tle)
 have hsame : same 10 (.agg [.int .u8 v.kind, .bool v.f.n.neg, a, .bool v.f.d.neg, b, .int .i64 v.i]) (.agg [.int .u8 v.kind, .bool v.f.n.neg, a, .bool v.f.d.neg, b, .int .i64 v.i]) = true := by
  show Am.same.sames 9 [.int .u8 v.kind, .bool v.f.n.neg, a, .bool v.f.d.neg, b, .int .i64 v.i] [.int .u8 v.kind, .bool v.f.n.neg, a, .bool v.f.d.neg, b, .int .i64 v.i] = true
  simp only [Am.same.sames, zd6, zp4, ha.same, hb.same, Bool.and_self]
 have sm : ∀ m d, same d (.map m) (.map m) = true := fun m d => by
  have e : ∀ n, Nat.beq n n = true := Nat.beq_refl
  cases d <;> (unfold Am.same; simp only [e, Bool.and_self])
 refine w233 _ _ _ _ _ _ _ ?_
 simp only [t233, wpT]; rw [zc5, zaa, zgf, zaa, zww, zaa, h.ldC, zaa]; simp only [zc5, zaa, zgf, zzhm, zww, h.ldM2]; rw [q276, hk0, zaa, zb9, zaa]
 simp only [zaa, h.ldC, h.ldM2, h.lc.same, sm, hsame, if_true]; rw [q102]; refine z9k h.os hs ha hb fun tf1 t1 a' b' q1 q2 q3 q4 => ?_
 have h1 : TS za9 tf1 t1 r s := ⟨h.pl, q2⟩
 have hz : zrd [(.int .u8 0), (.bool false), .nilslice, (.bool false), .nilslice, (.int .i64 0)] (.agg [.int .u8 v.kind, .bool v.f.n.neg, a', .bool v.f.d.neg, b', .int .i64 v.i]) = some (cellsOf [.int .u8 v.kind, .bool v.f.n.neg, a', .bool v.f.d.neg, b', .int .i64 v.i]) := zhs (by
  show (true && (true && (zj0 .nilslice a' && (true && (zj0 .nilslice b' && true))))) = true
  rw [zbi q3, zbi q4]; rfl)
 rw [hz, zaa]; simp only [zaa, h1.ldC, h1.ldM2, h1.lc.same, sm, if_true, cellsOf, zc2, zet, zhu, yaa, yab]; rw [q275]; refine w275 _ _ _ _ _ _ _ _ _ ?_
 simp only [t275, wpT]; rw [zqm h1.map2, zaa]; have hlen : r.cells.length = 11 := by simp [TR.cells, h.pl]
 unfold addC at hQ; by_cases hk : za9 v ∈ s.consts.map za9
 ·rw [if_pos hk] at hQ ⊢
  simp only [zas, zab.asTup, zac, zbh, yaa, yab, zaa, zag, zaz, Bool.not_true, yar, if_false, zc5, zgf, zww]; intro m _ _; obtain ⟨t2, g1, g2, g3⟩ := h1.cel.store1 (C := C19) h.baseB.1 (j := 5) (v := r.vc) ty31 rfl (by
   rcases h.lc with ⟨e, _⟩ | ⟨b, cl, c, e, _⟩ <;> rw [e] <;> rfl) h.lc.one (by omega)
  have es : r.cells.set 5 r.vc = r.cells := by
   have := zof (p := r.pl) h.pl (l := [r.vn, r.vc, r.vw, r.vt, .map r.m1, .map r.m2, r.vk]) (k := 1) (v := r.vc)
   exact this
  rw [es] at g2; rw [g1, zaa]; refine hQ tf1 t2 r q1 rfl rfl ⟨h.pl, ?_⟩
  exact Objs.upd (A := []) (o := zfm r.b none r.cells) h1.os (fun k k1 _ => g3 k (fun e => k1 (by simp [zfm, e]))) (fun k hk => .inl hk) g2 (by simp [zfm]) (h1.os.tle.off h1.baseB.2 g3)
 ·rw [if_neg hk] at hQ ⊢
  simp only [zas, zab.asTup, zac, zbh, yaa, yab, zaa, zag, zaz, Bool.not_false, if_true, h1.lc.len, yag, zc5, zgf, zww]; intro m0 _ _; have lowM : C19.base <= r.m2 /\ tf1.get r.m2 = none := h1.os.low r.m2 (by simp [tsL, zfm, zfv])
  obtain ⟨t2, a1, a2, a3⟩ := zpl h1.map2 lowM.1 hk
  rw [yag] at a1; have em : s.consts.map za9 ++ [za9 v] = (s.consts ++ [v]).map za9 := by simp
  rw [em] at a2; have o1 : Objs C19.base tf1 t2 ([zfm r.b none r.cells, zfv r.m1 (zax 0 s.names)] ++ zfv r.m2 (zax 0 ((s.consts ++ [v]).map za9)) :: [zat C19.base 1 (s.names.map D.str) r.vn, zat C19.base 6 (s.consts.map zc3.d) r.vc, zat C19.base 1 s.ws r.vw, zat C19.base 1 s.ts r.vt, zat C19.base 3 (s.code.map XIns.d) r.vk]) :=
   Objs.upd (o := zfv r.m2 (zax 0 (s.consts.map za9))) h1.os (fun k k1 _ => a3 k (fun e => k1 (by simp [zfv, e]))) (fun k hk => .inl hk) a2 (by simp [zfv]) (h1.os.tle.off lowM.2 a3)
  rw [a1, zaa]; intro n2 hn2 _; obtain ⟨t3, b1, b2, b3, b4⟩ := zhh (C := C19) (T := 31) (el := 47) (sz := 6) (n := 1) (cl := [[.int .u8 v.kind, .bool v.f.n.neg, a', .bool v.f.d.neg, b', .int .i64 v.i]]) (ps := [(0, .agg [.int .u8 v.kind, .bool v.f.n.neg, a', .bool v.f.d.neg, b', .int .i64 v.i])]) ty31 rfl ty47 rfl rfl (by decide) rfl (fun i cs hi => by
   cases i with
   | zero => simp at hi; subst hi; rfl
   | succ i => simp at hi) rfl hn2
  have o2 := o1.junk hn2 b4
  rw [b1, zaa]; intro n3 hn3 hb3; have ln2 : Loose C19.base tf1 t3 6 (s.consts.map zc3.d) r.vc := o2.ok (zat C19.base 6 (s.consts.map zc3.d) r.vc) (by simp)
  have hrd : RD tf1 v.d [.int .u8 v.kind, .bool v.f.n.neg, a', .bool v.f.d.neg, b', .int .i64 v.i] := zzef q3 q4
  obtain ⟨t4, c1, c2, c3, c4⟩ := zf9 (C := C19) el31 (m := [v.d]) ln2 b2 (by rw [zbd]; exact ⟨_, _, rfl, hrd, zbu.2 rfl⟩) (by
   intro x hx; simp only [List.flatten_cons, List.flatten_nil, ybe, yat, List.not_mem_nil, or_false] at hx; rcases hx with rfl | rfl | rfl | rfl | rfl | rfl
   ·rfl
   ·rfl
   ·exact q3.one
   ·rfl
   ·exact q4.one
   ·rfl) (by simp) (by simp; omega) hn3 hb3 o2.tle
  have ec : (s.consts.map zc3.d).length + [v.d].length = (s.consts ++ [v]).length := by simp
  have hd : s.consts.map zc3.d ++ [v.d] = (s.consts ++ [v]).map zc3.d := by simp
  rw [ec, hd] at c2; have o3 : Objs C19.base tf1 t4 ([zfm r.b none r.cells, zfv r.m1 (zax 0 s.names), zfv r.m2 (zax 0 ((s.consts ++ [v]).map za9)), zat C19.base 1 (s.names.map D.str) r.vn] ++ zat C19.base 6 ((s.consts ++ [v]).map zc3.d) (.slice n3 0 (s.consts ++ [v]).length (s.consts ++ [v]).length) :: [zat C19.base 1 s.ws r.vw, zat C19.base 1 s.ts r.vt, zat C19.base 3 (s.code.map XIns.d) r.vk]) := by
   refine Objs.upd (o := zat C19.base 6 (s.consts.map zc3.d) r.vc) o2 (fun k k1 k2 => c4 k ?_ (fun e => k1 (zgx.2 e))) (fun k hk => ?_) c2 (by simp [zat, zjx]) c3
   ·intro e; subst e; exact k2 (by simp [zat, zjx])
   ·have : k = n3 := by simpa [zat, zjx] using hk
    subst this; exact .inr ⟨hn3, hb3⟩
  rw [c1, zaa, ec]; simp only [zas, zab.asTup, zac, zbh, yaa, yab, zaa, zag, zc5, zgf, zww]; intro m4 _ _; have cel3 : Cel t4 r.b none r.cells := o3.ok (zfm r.b none r.cells) (by simp)
  obtain ⟨t5, g1, g2, g3⟩ := cel3.store1 (C := C19) h.baseB.1 (j := 5) (v := .slice n3 0 (s.consts ++ [v]).length (s.consts ++ [v]).length) ty31 rfl rfl rfl (by omega)
  have es : r.cells.set 5 (.slice n3 0 (s.consts ++ [v]).length (s.consts ++ [v]).length) = TR.cells ⟨r.b, r.pl, r.vn, .slice n3 0 (s.consts ++ [v]).length (s.consts ++ [v]).length, r.vw, r.vt, r.vk, r.m1, r.m2⟩ := zof (k := 1) h.pl
  rw [es] at g2; have ek : ((zsx (za9 v) (s.consts.map za9) : Nat) : Int) = (s.consts.length : Int) := by rw [zua hk, yag]
  rw [g1, zaa, <- ek]; refine hQ tf1 t5 ⟨r.b, r.pl, r.vn, .slice n3 0 (s.consts ++ [v]).length (s.consts ++ [v]).length, r.vw, r.vt, r.vk, r.m1, r.m2⟩ q1 rfl rfl ⟨h.pl, ?_⟩
  exact Objs.upd (A := []) (o := zfm r.b none r.cells) o3 (fun k k1 _ => g3 k (fun e => k1 (by simp [zfm, e]))) (fun k hk => .inl hk) g2 (by simp [zfm]) (c3.off h1.baseB.2 g3)
end Go.Proofs
