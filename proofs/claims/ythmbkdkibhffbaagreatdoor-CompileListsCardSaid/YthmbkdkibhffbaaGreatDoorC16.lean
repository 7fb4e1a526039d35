/- Sizes and depths of expressions; bounded plans. -/
import Derived.Lib.ItoaLen
import Derived.Test.YthmbkdkibhffbaaGreatDoorC15
set_option linter.all false
noncomputable section
set_option maxRecDepth 100000
namespace Go.Proofs
open Go Go.Am
variable [zcf]
variable {t : Tr zal}
mutual
/-- parts are counted, up to a limit -/
def zg9 : zam -> Nat -> Nat -> Bool × Nat
 | .mk _ _ _ args, deep, c => if 200 < c + 1 then (false, c + 1) else if 24 < deep then (false, c + 1) else zha args (deep + 1) (c + 1)
def zha : List zam -> Nat -> Nat -> Bool × Nat
 | [], _, c => (true, c)
 | x :: l, deep, c => if (zg9 x deep c).1 = true then zha l deep (zg9 x deep c).2 else (false, (zg9 x deep c).2)
end
mutual
theorem zpx : ∀ (x : zam) (deep c : Nat), c <= 200 -> (zg9 x deep c).2 <= 201 /\ ((zg9 x deep c).1 = true -> (zg9 x deep c).2 <= 200)
 | .mk _ _ _ args, deep, c, h => by
  unfold zg9; split
  ·simp; omega
  ·split
   ·simp; omega
   ·exact zvn args (deep + 1) (c + 1) (by omega)
theorem zvn : ∀ (l : List zam) (deep c : Nat), c <= 200 -> (zha l deep c).2 <= 201 /\ ((zha l deep c).1 = true -> (zha l deep c).2 <= 200)
 | [], deep, c, h => by unfold zha; simp; omega
 | x :: l, deep, c, h => by
  have h1 := zpx x deep c h
  unfold zha; split
  ·rename_i e
   exact zvn l deep _ (h1.2 e)
  ·simp; omega
end
theorem z08 {x : zam} {a b c : zab} (ha : zab.one a = true) (hb : zab.one b = true) (hc : zab.one c = true) : zeb zab.one [.int .u8 x.op, .str x.name, .int .u8 x.v.kind, .bool x.v.f.n.neg, a, .bool x.v.f.d.neg, b, .int .i64 x.v.i, c] = true := by
 rw [zcb]; simp only [ybh, List.all_nil, ha, hb, hc]; rfl
theorem zzg {l : List zam} {v : zab} (hv : RSl t 9 (l.map zam.d) v) {i : Nat} {x : zam} (hx : l[i]? = some x) :
  ∃ b off a c d, zaf C19 48 v (.int .i64 (i : Int)) = some (.ptr b off) /\ zap C19 50 ⟨0, t⟩ (.ptr b off) = some (.agg (zex x a c d)) /\ RD t x.d (zex x a c d) /\ zrc [(.int .u8 0), (.str []), (.int .u8 0), (.bool false), .nilslice, (.bool false), .nilslice, (.int .i64 0), .nilslice] (.agg (zex x a c d)) = some (cellsOf (zex x a c d)) ∧
   RSl t 1 (zd2 x.v.f.n.limbs) a /\ RSl t 1 (zd2 x.v.f.d.limbs) c /\ RSl t 9 (x.args.map zam.d) d := by
 obtain ⟨b, off, cs, g1, g2, _, _, g5⟩ := zjo.at sl48 (by simp) hv (i := i) (d := x.d) (by simp [hx])
 have hz := zkm g5 x.zs
 obtain ⟨a, c, d, rfl, h1, h2, h3⟩ := zhe g5
 exact ⟨b, off, a, c, d, g1, g2, g5, hz, h1, h2, h3⟩
section
variable {tf : Tr zal} {c w : Nat}
mutual
theorem z4x : ∀ (x : zam) (deep n : Nat) (cs : List zab) (t : Tr zal) (Q : zaw), x.ok -> deep <= 25 -> n <= 200 -> RD tf x.d cs -> TLe tf t -> C19.base <= c -> tf.get c = none -> Cel tf w none [.func (.func 116) [] [.ptr c 0, .ptr w 0]] -> Cel t c none [.int .i64 (n : Int)] →
  (∀ t', Off c t t' -> TLe tf t' -> Cel t' c none [.int .i64 ((zg9 x deep n).2 : Int)] -> Q (.bool (zg9 x deep n).1) t') -> Wc C19 F 116 [.agg cs, .int .i64 (deep : Int), .ptr c 0, .ptr w 0] t Q
 | .mk op name v args, deep, n, cs, t, Q, hx, hdeep, hn, h, ht, hc, hfc, hw, hcel, hQ => by
  obtain ⟨a, b, d, rfl, ha, hb, hd⟩ := zhe h
  simp only [zam.op, zam.name, zam.v, zam.args] at ha hb hd; have hx' := hx
  unfold zam.ok zf9 at hx'; have l0 : zap C19 3 ⟨0, t⟩ (.ptr c 0) = some (.int .i64 (n : Int)) := hcel.load1 ty3 rfl rfl
  obtain ⟨t1, s1, s2, s3⟩ := hcel.store1 (C := C19) hc (j := 0) (v := .int .i64 ((n + 1 : Nat) : Int)) ty3 rfl rfl rfl (by simp)
  have s2 : Cel t1 c none [.int .i64 ((n + 1 : Nat) : Int)] := s2
  have ht1 : TLe tf t1 := ht.off hfc s3
  have l1 : zap C19 3 ⟨0, t1⟩ (.ptr c 0) = some (.int .i64 ((n + 1 : Nat) : Int)) := s2.load1 ty3 rfl rfl
  have e1 : (n : Int) + 1 = ((n + 1 : Nat) : Int) := by omega
  refine w116 _ _ _ _ _ _ _ _ _ _ _ _ ?_
  simp only [t116, wpT]; rw [l0, zaa, zag, zaa, e1, zak (by omega) (by omega)]
  intro m _ _; rw [s1, zaa, l1, zaa, zag, zaa]; simp only [zat]; unfold zg9 at hQ; by_cases h1 : 200 < n + 1
  ·rw [if_pos (by omega)]
   rw [if_pos h1] at hQ; exact hQ t1 s3 ht1 s2
  ·rw [if_neg (by omega)]
   rw [if_neg h1] at hQ; by_cases h2 : 24 < deep
   ·rw [if_pos (by omega)]
    rw [if_pos h2] at hQ; exact hQ t1 s3 ht1 s2
   ·rw [if_neg (by omega)]
    rw [if_neg h2] at hQ; rw [(hd.mono ht1).len, zaa, yag, zag, zaa]
    exact zz9 args args deep (n + 1) d 0 t1 Q hd rfl hx'.2.2.2 hx'.2.2.1 (by omega) (by omega) ht1 hc hfc hw s2 (fun t' k1 k2 k3 => hQ t' (s3.trans k1) k2 k3)
theorem zz9 : ∀ (l args : List zam) (deep n : Nat) (d : zab) (i : Nat) (t : Tr zal) (Q : zaw), RSl tf 9 (args.map zam.d) d -> args.drop i = l -> zam.oks l -> args.length < 1125899906842624 -> deep <= 24 -> n <= 200 -> TLe tf t -> C19.base <= c -> tf.get c = none -> Cel tf w none [.func (.func 116) [] [.ptr c 0, .ptr w 0]] -> Cel t c none [.int .i64 (n : Int)] →
  (∀ t', Off c t t' -> TLe tf t' -> Cel t' c none [.int .i64 ((zha l (deep + 1) n).2 : Int)] -> Q (.bool (zha l (deep + 1) n).1) t') -> jp 116 2 [.int .i64 (deep : Int), .ptr w 0, d, .int .i64 (args.length : Int), .int .i64 (i : Int)] t Q
 | [], args, deep, n, d, i, t, Q, hd, hl, hok, hsz, hdeep, hn, ht, hc, hfc, hw, hcel, hQ => by
  have := zmx hl
  refine zzfo _ _ _ _ _ ?_
  simp only [z6g, wpT, zat]; rw [if_neg (by omega)]
  unfold zha at hQ; exact hQ t (Off.refl _ _) ht hcel
 | x :: l, args, deep, n, d, i, t, Q, hd, hl, hok, hsz, hdeep, hn, ht, hc, hfc, hw, hcel, hQ => by
  obtain ⟨h1, h2, h3⟩ := zk3 hl
  have hok' := hok
  unfold zam.oks at hok'; obtain ⟨b', off, a1, b1, c1, g1, g2, g3, g4, g5, g6, g7⟩ := zzg (hd.mono ht) h1
  obtain ⟨b2, off2, a2, c2, d2, k1, k2, k3, k4, k5, k6, k7⟩ := zzg hd h1
  have e : b' = b2 /\ off = off2 := by rw [g1] at k1; cases k1; (first | exact ⟨rfl, rfl⟩ | exact ⟨rfl, trivial⟩ | trivial)
  obtain ⟨rfl, rfl⟩ := e
  have e2 := zeg (HA := ⟨0, t⟩) (fun _ _ h => ht _ _ h) k2
  rw [g2] at e2; have e3 : zex x a1 b1 c1 = zex x a2 c2 d2 := by cases e2; rfl
  rw [<- e3] at k3; have lw : zap C19 73 ⟨0, t⟩ (.ptr w 0) = some (.func (.func 116) [] [.ptr c 0, .ptr w 0]) := zeg (H := ⟨0, tf⟩) (fun _ _ h => ht _ _ h) (hw.load1 ty73 rfl rfl)
  have f : ∀ a b, zn1 (.func (.func 116) [] [.ptr c 0, .ptr w 0]) [a, b] = some (116, [a, b, .ptr c 0, .ptr w 0]) := fun _ _ => rfl
  have e1 : (deep : Int) + 1 = ((deep + 1 : Nat) : Int) := by omega
  refine zzfo _ _ _ _ _ ?_
  simp only [z6g, wpT, zat]; rw [if_pos (by omega), g1, zaa, g2, zaa, g4, zaa]
  simp only [zex, cellsOf, zix, zde, ze6, zil, yaa, yab]; refine zbf (z08 g5.one g6.one g7.one) ?_
  rw [lw, zaa, f, zaa, e1, zak (by omega) (by omega), q116]
  have hle := zpx x (deep + 1) n hn
  refine z4x x (deep + 1) n _ t _ hok'.1 (by omega) hn k3 ht hc hfc hw hcel fun t' m1 m2 m3 => ?_
  rw [zax, zaa]; unfold zha at hQ
  cases hq : (zg9 x (deep + 1) n).1 with
  | false =>
   rw [hq, if_neg (by simp)] at hQ
   simp only [Bool.not_false, if_true]; exact hQ t' m1 m2 m3
  | true =>
   rw [hq, if_pos rfl] at hQ; simp only [Bool.not_true, yar, if_false]; rw [zak (by omega) (by omega), show (i : Int) + 1 = ((i + 1 : Nat) : Int) by omega]
   exact zz9 l args deep _ d (i + 1) t' Q hd h2 hok'.2 hsz hdeep (hle.2 hq) m2 hc hfc hw m3 fun t'' p1 p2 p3 => hQ t'' (m1.trans p1) p2 p3
end
end
def zme (x : zam) : Bool := (zg9 x 1 0).1
theorem z0r {x : zam} {cs : List zab} (hx : x.ok) (h : RD t x.d cs) : pvC C19 F 63 [.agg cs] t = some (.bool (zme x)) := by
 obtain ⟨a, b, d, rfl, ha, hb, hd⟩ := zhe h
 refine z3a (w63 _ _ _ _ _ _ _ _ _ ?_)
 simp only [t63, wpT]; intro c hc hcb; obtain ⟨t1, g1, g2, g3, g4⟩ := zrb (C := C19) ty3 hc
 rw [g1, zaa]; intro m1 _ _; obtain ⟨t2, s1, s2, s3⟩ := g2.store1 (C := C19) hcb (j := 0) (v := .int .i64 ((0 : Nat) : Int)) ty3 rfl rfl rfl (by decide)
 have s1' : zb3 C19 3 (.ptr c 0) (.int .i64 0) ⟨m1, t1⟩ = some (zbr, ⟨m1, t2⟩) := s1 m1
 rw [s1', zaa]; intro w hw hwb; have hwc : w ≠ c := by
  intro e; subst e; obtain ⟨x, hx, _⟩ := s2
  rw [hx] at hw; cases hw
 have htw : t.get w = none := by
  cases hq : t.get w with
  | none => rfl
  | some y => have := (g3.off hc s3) _ _ hq; rw [hw] at this; cases this
 obtain ⟨t3, g5, g6, g7, g8⟩ := zrb (C := C19) ty73 hw
 rw [g5, zaa]; intro m2 _ _; obtain ⟨t4, s4, s5, s6⟩ := g6.store1 (C := C19) hwb (j := 0) (v := .func (.func 116) [] [.ptr c 0, .ptr w 0]) ty73 rfl rfl rfl (by decide)
 have s4' := s4 m2
 rw [s4', zaa]; have s5 : Cel t4 w none [.func (.func 116) [] [.ptr c 0, .ptr w 0]] := s5
 have lw : zap C19 73 ⟨0, t4⟩ (.ptr w 0) = some (.func (.func 116) [] [.ptr c 0, .ptr w 0]) := s5.load1 ty73 rfl rfl
 have f : ∀ a b, zn1 (.func (.func 116) [] [.ptr c 0, .ptr w 0]) [a, b] = some (116, [a, b, .ptr c 0, .ptr w 0]) := fun _ _ => rfl
 rw [lw, zaa, f, zaa, q116]; have hc4 : t4.get c = t2.get c := by rw [s6 c (Ne.symm hwc), g8 c (Ne.symm hwc)]
 have hcel : Cel t4 c none [.int .i64 ((0 : Nat) : Int)] := s2.off hc4
 obtain ⟨blk, hblk, hblk2⟩ := s5
 have htf : TLe t (t.set w (.cells blk 1 none)) := (zdb htw _).1
 have hft : TLe (t.set w (.cells blk 1 none)) t4 := by
  intro k y hk; rw [Tr.get_set] at hk; split at hk
  ·rename_i e; subst e; cases hk; exact hblk
  ·rename_i e
   have hkc : k ≠ c := by intro e'; subst e'; rw [hc] at hk; cases hk
   rw [s6 k e, g8 k e, s3 k hkc, g4 k hkc]; exact hk
 refine z4x (tf := t.set w (.cells blk 1 none)) (c := c) (w := w) x 1 0 _ t4 _ hx (by omega) (by omega) (RD.mono htf _ _ h) hft hcb (by rw [Tr.get_set, if_neg (Ne.symm hwc)]; exact hc) ⟨blk, by rw [Tr.get_set, if_pos rfl]; rfl, hblk2⟩ hcel fun t' k1 k2 k3 => ?_
 rw [zax, zaa]; exact ⟨rfl, htf.trans k2⟩
end Go.Proofs
namespace Go.Proofs
open Go Go.Am
variable [zcf]
variable {t : Tr zal}
def zfu (x : za4) (a b c a' b' c' : zab) : List zab := [.str x.name, .str x.label, .int .i64 x.from_, .int .i64 x.to, .int .i64 x.known, .bool x.off, .int .u8 x.when_.op, .str x.when_.name, .int .u8 x.when_.v.kind, .bool x.when_.v.f.n.neg, a, .bool x.when_.v.f.d.neg, b, .int .i64 x.when_.v.i, c, .int .u8 x.then_.op, .str x.then_.name, .int .u8 x.then_.v.kind, .bool x.then_.v.f.n.neg, a', .bool x.then_.v.f.d.neg, b', .int .i64 x.then_.v.i, c']
def zte : List zab := [(.str []), (.str []), (.int .i64 0), (.int .i64 0), (.int .i64 0), (.bool false), (.int .u8 0), (.str []), (.int .u8 0), (.bool false), .nilslice, (.bool false), .nilslice, (.int .i64 0), .nilslice, (.int .u8 0), (.str []), (.int .u8 0), (.bool false), .nilslice, (.bool false), .nilslice, (.int .i64 0), .nilslice]
theorem z3e {x : za4} {a b c a' b' c' : zab} (ha : zab.one a = true) (hb : zab.one b = true) (hc : zab.one c = true) (ha' : zab.one a' = true) (hb' : zab.one b' = true) (hc' : zab.one c' = true) : zeb zab.one (zfu x a b c a' b' c') = true := by
 rw [zcb]; simp only [zfu, ybh, List.all_nil, ha, hb, hc, ha', hb', hc']; rfl
theorem zq0 {l : List za4} {v : zab} (hv : RSl t 24 (l.map za4.d) v) {i : Nat} {x : za4} (hx : l[i]? = some x) :
  ∃ p off a b c a' b' c', zaf C19 24 v (.int .i64 (i : Int)) = some (.ptr p off) /\ zap C19 52 ⟨0, t⟩ (.ptr p off) = some (.agg (zfu x a b c a' b' c')) /\ zrc zte (.agg (zfu x a b c a' b' c')) = some (cellsOf (zfu x a b c a' b' c')) ∧
   RD t x.when_.d (zex x.when_ a b c) /\ RD t x.then_.d (zex x.then_ a' b' c') /\ zeb zab.one (zfu x a b c a' b' c') = true := by
 obtain ⟨p, off, cs, g1, g2, _, _, g5⟩ := zjo.at sl24 (by simp) hv (i := i) (d := x.d) (by simp [hx])
 have hz := zkm g5 x.zs
 obtain ⟨a, b, c, a', b', c', rfl, h1, h2⟩ := zp7 g5
 obtain ⟨u1, u2, u3, e1, m1, m2, m3⟩ := zhe h1
 obtain ⟨w1, w2, w3, e2, n1, n2, n3⟩ := zhe h2
 unfold zex at e1 e2
 cases e1
 cases e2
 exact ⟨p, off, _, _, _, _, _, _, g1, g2, hz, h1, h2, z3e m1.one m2.one m3.one n1.one n2.one n3.one⟩
def zfn (c : za4) : Bool := zme c.when_ && zme c.then_
def zfm (p : zi6) : Bool := decide (p.defs.length <= 64) && decide (p.clauses.length <= 400) && decide (p.tables.length <= 16) && p.clauses.all zfn && p.tables.all zld
theorem zx7 {l : List zb9} {v : zab} (hv : RSl t 3 (l.map zb9.d) v) (hn : l.length < 1125899906842624) (hf : ∀ x ∈ l, x.fit) : ∀ (k i : Nat), i + k = l.length -> jp 33 6 [v, .int .i64 (l.length : Int), .int .i64 (i : Int)] t (fun r m => r = .bool ((l.drop i).all zld) /\ m = t) := by
 intro k; induction k with
 | zero =>
  intro i hi; refine j33_6 _ _ _ ?_
  simp only [zzgm, wpT, zat]; rw [if_neg (by omega), yau (by omega)]
  (first | exact ⟨rfl, rfl⟩ | exact ⟨rfl, trivial⟩ | trivial)
 | succ k ih =>
  intro i hi; have h1 : i < l.length := by omega
  obtain ⟨b, off, cs, g1, g2, _, _, g5⟩ := zjo.at sl23 (by simp) hv (i := i) (d := l[i].d) (by simp [yae h1])
  have hz := zkm g5 (zb9.zs _)
  obtain ⟨a, rfl, ha⟩ := zo3 g5
  have hfit := hf _ (List.getElem_mem h1)
  have hone : zeb zab.one [.str l[i].name, .bool l[i].two, a] = true := by rw [zcb]; simp only [ybh, List.all_nil, ha.one]; rfl
  refine j33_6 _ _ _ ?_
  simp only [zzgm, wpT, zat]; rw [if_pos (by omega), g1, zaa, g2, zxx, zaa, hz, zaa]
  simp only [cellsOf, zil, zde, ze6, yaa, yab]; refine zbf hone ?_
  rw [q64, z4y ha hfit.2.1 hfit.1 (fun r hr => (hfit.2.2 r hr).2.2.2), zaa, zax, zaa, yam h1, ybh]
  cases hq : zld l[i] with
  | false => simp
  | true =>
   simp only [Bool.not_true, yar, if_false, Bool.true_and]; rw [zak (by omega) (by omega)]
   exact ih (i + 1) (by omega)
theorem zw3 {p : zi6} {l : List za4} {v a b : zab} (hp : l = p.clauses) (hv : RSl t 24 (l.map za4.d) v) (hb : RSl t 3 (p.tables.map zb9.d) b) (hn : l.length < 1125899906842624) (hnt : p.tables.length < 1125899906842624) (hf : ∀ x ∈ l, x.fit) (hft : ∀ x ∈ p.tables, x.fit) : ∀ (k i : Nat), i + k = l.length -> jp 33 2 [v, .int .i64 (l.length : Int), .int .i64 (i : Int), .str p.name, a, b, v] t (fun r m => r = .bool ((l.drop i).all zfn && p.tables.all zld) /\ m = t) := by
 intro k; induction k with
 | zero =>
  intro i hi; refine j33_2 _ _ _ _ _ _ _ ?_
  simp only [zzgn, wpT, zat]; rw [if_neg (by omega), yau (by omega), hb.len, zaa, yag, zag, zaa]
  have := zx7 hb hnt hft p.tables.length 0 (by omega)
  rw [List.drop_zero] at this; exact this
 | succ k ih =>
  intro i hi; have h1 : i < l.length := by omega
  obtain ⟨q, off, u1, u2, u3, w1, w2, w3, g1, g2, g3, g4, g5, g6⟩ := zq0 hv (yae h1)
  have hfit := hf _ (List.getElem_mem h1)
  refine j33_2 _ _ _ _ _ _ _ ?_
  simp only [zzgn, wpT, zat]; unfold zte at g3; rw [if_pos (by omega), g1, zaa, g2, zaa, g3, zaa]
  unfold zfu at g6; simp only [zfu, cellsOf, zix, zil, zde, ze6, yaa, yab]; have s1 := z0r (zam.fit_ok hfit.2.2.2.2.2.1) g4
  have s2 := z0r (zam.fit_ok hfit.2.2.2.2.2.2) g5
  unfold zex at s1 s2; refine zbf g6 ?_
  rw [q63, s1, zaa, zax, zaa, q63, s2, zaa, zax, zaa, yam h1, ybh]; have e : zfn l[i] = (zme l[i].when_ && zme l[i].then_) := rfl
  rw [e]
  cases hq : zme l[i].when_ with
  | false => simp
  | true =>
   cases hq2 : zme l[i].then_ with
   | false => simp
   | true =>
    simp only [Bool.not_true, yar, if_false, Bool.true_and]; rw [zak (by omega) (by omega)]
    exact ih (i + 1) (by omega)
theorem z4c {p : zi6} {cs : List zab} (hp : p.fit) (h : RD t p.d cs) : pvC C19 F 33 [.agg cs] t = some (.bool (zfm p)) := by
 obtain ⟨a, b, c, rfl, ha, hb, hc⟩ := zp6 h
 obtain ⟨p1, p2, p3, p4, p5, p6, p7⟩ := hp
 unfold zf9 at p1 p2 p3 p4; refine zbk.2 (w33 _ _ _ _ ?_)
 simp only [t33, wpT, ha.len, hb.len, hc.len, zaa, zag, yag, zat]; unfold zfm; by_cases h1 : p.defs.length <= 64
 ·rw [if_neg (by omega)]
  by_cases h2 : p.clauses.length <= 400
  ·rw [if_neg (by omega)]
   by_cases h3 : p.tables.length <= 16
   ·rw [if_neg (by omega)]
    simp only [h1, h2, h3, decide_true, Bool.true_and]; have := zw3 (a := a) rfl hc hb (by omega) (by omega) p7 p6 p.clauses.length 0 (by omega)
    rw [List.drop_zero] at this; exact this
   ·rw [if_pos (by omega)]; simp [h3]
  ·rw [if_pos (by omega)]; simp [h2]
 ·rw [if_pos (by omega)]; simp [h1]
end Go.Proofs
namespace Go.Am
structure XIns where
 op : Nat
 a : Int
 b : Int
def zqq (k : List Nat) : List (List Nat) -> Nat
 | [] => 0
 | x :: l => if k = x then 0 else zqq k l + 1
theorem z1p {k : List Nat} : ∀ {l : List (List Nat)}, k ∈ l -> l[zqq k l]? = some k
 | [], h => by cases h
 | x :: l, h => by
  unfold zqq; split
  ·rename_i e; rw [e]; rfl
  ·rename_i e
   rcases yat.1 h with h | h
   ·exact absurd h e
   ·rw [yab]; exact z1p h
theorem zmr {k : List Nat} : ∀ {l : List (List Nat)}, k ∉ l -> zqq k l = l.length
 | [], _ => rfl
 | x :: l, h => by
  unfold zqq; have h1 : k ≠ x := fun e => h (by rw [e]; exact yaz)
  rw [if_neg h1, zmr (fun m => h (yas _ m))]; rfl
structure Nt where
 names : List (List Nat)
 consts : List zcg
section
variable (key : zcg -> List Nat) (valid : zcg -> Bool)
def Nt.name (s : Nt) (n : List Nat) : Nt := if n ∈ s.names then s else ⟨s.names ++ [n], s.consts⟩
def Nt.const (s : Nt) (v : zcg) : Nt := if key v ∈ s.consts.map key then s else ⟨s.names, s.consts ++ [v]⟩
def Nt.nameI (s : Nt) (n : List Nat) : Nat := zqq n s.names
def Nt.constI (s : Nt) (v : zcg) : Nat := zqq (key v) (s.consts.map key)
def zra (op : Nat) : Int × Int :=
 if op = 1 \/ op = 2 then (0, 0) else if op = 5 then (1, 1) else if op = 6 then (1, 2) else if op = 15 \/ op = 16 then (2, 2) else if op = 18 then (3, 3)
 else if op = 3 \/ op = 4 \/ op = 17 \/ op = 24 \/ op = 25 \/ op = 26 then (1, 1)
 else if (7 <= op /\ op <= 14) \/ op = 19 \/ op = 20 \/ op = 21 \/ op = 23 then (2, 2) else if op = 22 then (3, 3) else (1, 0)
def zc5 (op : Nat) (v : zcg) (n : Nat) : Bool := (decide (op ≠ 1) || valid v) && decide ((zra op).1 <= n) && decide ((n : Int) <= (zra op).2)
def zd1 (op : Nat) (name : List Nat) (v : zcg) (n : Nat) (s : Nt) : Nt × XIns :=
 if op = 1 then (s.const key v, ⟨1, s.constI key v, 0⟩)
 else if op = 2 then (s, ⟨2, 0, 0⟩)
 else if op = 3 \/ op = 4 \/ op = 5 then (s.name name, ⟨op, s.nameI name, 0⟩)
 else if op = 6 then (s.name name, ⟨6, s.nameI name, n⟩)
 else if op = 21 \/ op = 22 \/ op = 23 then (s.name name, ⟨8, s.nameI name, op⟩)
 else if op = 19 then (s, ⟨7, 19, v.i⟩)
 else (s, ⟨7, op, 0⟩)
abbrev Tr1 := Nt -> Nat -> Nt × List XIns
def zdg (n : Int) : zcg := ⟨1, ⟨⟨false, []⟩, ⟨false, []⟩⟩, n⟩
def zny (f g : Tr1) (skip : Nat) (truth : Int) : Tr1 := fun s p =>
 ((g (f s p).1 (p + (f s p).2.length + 1)).1.const key (zdg truth),
  (f s p).2 ++ ⟨skip, ((p + (f s p).2.length + 1 + (g (f s p).1 (p + (f s p).2.length + 1)).2.length + 2 : Nat) : Int), 0⟩ ::
   ((g (f s p).1 (p + (f s p).2.length + 1)).2 ++ [⟨12, 0, 0⟩, ⟨9, ((p + (f s p).2.length + 1 + (g (f s p).1 (p + (f s p).2.length + 1)).2.length + 3 : Nat) : Int), 0⟩, ⟨1, (g (f s p).1 (p + (f s p).2.length + 1)).1.constI key (zdg truth), 0⟩]))
def ifT (f g h : Tr1) : Tr1 := fun s p =>
 ((h (g (f s p).1 (p + (f s p).2.length + 1)).1 (p + (f s p).2.length + 1 + (g (f s p).1 (p + (f s p).2.length + 1)).2.length + 1)).1,
  (f s p).2 ++ ⟨10, ((p + (f s p).2.length + 1 + (g (f s p).1 (p + (f s p).2.length + 1)).2.length + 1 : Nat) : Int), 0⟩ ::
   ((g (f s p).1 (p + (f s p).2.length + 1)).2 ++ ⟨9, ((p + (f s p).2.length + 1 + (g (f s p).1 (p + (f s p).2.length + 1)).2.length + 1 + (h (g (f s p).1 (p + (f s p).2.length + 1)).1 (p + (f s p).2.length + 1 + (g (f s p).1 (p + (f s p).2.length + 1)).2.length + 1)).2.length : Nat) : Int), 0⟩ ::
    (h (g (f s p).1 (p + (f s p).2.length + 1)).1 (p + (f s p).2.length + 1 + (g (f s p).1 (p + (f s p).2.length + 1)).2.length + 1)).2))
def zh1 : List Tr1 -> Tr1
 | [], s, _ => (s, [])
 | f :: l, s, p => ((zh1 l (f s p).1 (p + (f s p).2.length)).1, (f s p).2 ++ (zh1 l (f s p).1 (p + (f s p).2.length)).2)
def zlo (op : Nat) (name : List Nat) (v : zcg) (fs : List Tr1) : Tr1 := fun s p =>
 if zc5 valid op v fs.length = false then (s, [⟨13, 0, 0⟩])
 else if op = 15 then (match fs with | f :: g :: _ => zny key f g 10 0 s p | _ => (s, []))
 else if op = 16 then (match fs with | f :: g :: _ => zny key f g 11 1 s p | _ => (s, []))
 else if op = 18 then (match fs with | f :: g :: h :: _ => ifT f g h s p | _ => (s, []))
 else ((zd1 key op name v fs.length (zh1 fs s p).1).1, (zh1 fs s p).2 ++ [(zd1 key op name v fs.length (zh1 fs s p).1).2])
mutual
def trX : zam -> Tr1
 | .mk op name v args => zlo key valid op name v (trF args)
def trF : List zam -> List Tr1
 | [] => []
 | x :: l => trX x :: trF l
end
theorem zx6 : ∀ l : List zam, (trF key valid l).length = l.length
 | [] => rfl
 | x :: l => by simp [trF, zx6 l]
def trC : List za4 -> Nt -> Nt × List (List XIns × List XIns)
 | [], s => (s, [])
 | c :: l, s => ((trC l (trX key valid c.then_ (trX key valid c.when_ s 0).1 0).1).1, ((trX key valid c.when_ s 0).2, (trX key valid c.then_ (trX key valid c.when_ s 0).1 0).2) :: (trC l (trX key valid c.then_ (trX key valid c.when_ s 0).1 0).1).2)
end
def zeu (i : XIns) : Int :=
 if i.op = 3 \/ i.op = 4 \/ i.op = 5 \/ i.op = 12 then 1
 else if i.op = 6 then i.b
 else if i.op = 7 then (if i.a % 256 = 17 \/ i.a % 256 = 24 \/ i.a % 256 = 25 \/ i.a % 256 = 26 then 1 else 2)
 else if i.op = 8 then (if i.b = 22 then 3 else 2)
 else 0
inductive Stp (code : List XIns) (bit : Nat -> Bool) : Nat -> Int -> Nat -> Int -> Prop
 | jump {p q : Nat} {d : Int} {i : XIns} : code[p]? = some i -> i.op = 9 -> i.a = (q : Int) -> p < q -> q <= code.length -> Stp code bit p d q d
 | cond {p q : Nat} {d : Int} {i : XIns} : code[p]? = some i -> (i.op = 10 \/ i.op = 11) -> (if bit p = true then i.a else (p : Int) + 1) = (q : Int) -> p < q -> q <= code.length -> 1 <= d -> Stp code bit p d q (d - 1)
 | op {p : Nat} {d : Int} {i : XIns} : code[p]? = some i -> i.op < 9 \/ (11 < i.op /\ i.op < 255) -> zeu i <= d -> Stp code bit p d (p + 1) (d + (1 - zeu i))
inductive Way (code : List XIns) (bit : Nat -> Bool) : Nat -> Int -> Nat -> Int -> Prop
 | nil {p : Nat} {d : Int} : Way code bit p d p d
 | cons {p q r : Nat} {d e f : Int} : Stp code bit p d q e -> Way code bit q e r f -> Way code bit p d r f
theorem Way.trans {code : List XIns} {bit : Nat -> Bool} {p q r : Nat} {d e f : Int} (h : Way code bit p d q e) (k : Way code bit q e r f) : Way code bit p d r f := by
 induction h with
 | nil => exact k
 | cons s _ ih => exact .cons s (ih k)
def Seg (code : List XIns) (p : Nat) (l : List XIns) : Prop := ∀ (k : Nat) x, l[k]? = some x -> code[p + k]? = some x
theorem Seg.left {code : List XIns} {p : Nat} {l m : List XIns} (h : Seg code p (l ++ m)) : Seg code p l := fun k x hk => h k x (by rw [List.getElem?_append_left (yad.1 hk).1]; exact hk)
theorem Seg.right {code : List XIns} {p : Nat} {l m : List XIns} (h : Seg code p (l ++ m)) : Seg code (p + l.length) m := fun k x hk => by
 have := h (l.length + k) x (by rw [yaq (by omega)]; rw [show l.length + k - l.length = k by omega]; exact hk)
 rw [Nat.add_assoc]; exact this
theorem Seg.head {code : List XIns} {p : Nat} {x : XIns} {m : List XIns} (h : Seg code p (x :: m)) : code[p]? = some x /\ Seg code (p + 1) m := by
 refine ⟨h 0 x rfl, fun k y hk => ?_⟩
 have := h (k + 1) y (by simpa using hk)
 rw [show p + (k + 1) = p + 1 + k by omega] at this
 exact this
section
variable {key : zcg -> List Nat} {valid : zcg -> Bool} {code : List XIns} {bit : Nat -> Bool}
def z4m (code : List XIns) (bit : Nat -> Bool) (f : Tr1) : Prop := ∀ s p d, Seg code p (f s p).2 -> p + (f s p).2.length <= code.length -> 0 <= d -> Way code bit p d (p + (f s p).2.length) (d + 1)
theorem z1y : ∀ {fs : List Tr1}, (∀ f ∈ fs, z4m code bit f) -> ∀ s p d, Seg code p (zh1 fs s p).2 -> p + (zh1 fs s p).2.length <= code.length -> 0 <= d -> Way code bit p d (p + (zh1 fs s p).2.length) (d + fs.length)
 | [], _, s, p, d, _, _, _ => by simp only [zh1, yay, Nat.add_zero]; rw [show d + ((0 : Nat) : Int) = d by omega]; exact .nil
 | f :: l, hg, s, p, d, h, hl, hd => by
  simp only [zh1, yah] at h hl ⊢
  have h1 := hg f (by simp) s p d h.left (by omega) hd
  have h2 := z1y (fun g hg' => hg g (by simp [hg'])) (f s p).1 (p + (f s p).2.length) (d + 1) h.right (by omega) (by omega)
  have := h1.trans h2
  rw [yao, show d + ((l.length + 1 : Nat) : Int) = d + 1 + (l.length : Int) by omega, <- Nat.add_assoc]
  exact this
theorem zwp {f g : Tr1} {skip : Nat} {truth : Int} (hf : z4m code bit f) (hg : z4m code bit g) (hs : skip = 10 \/ skip = 11) : z4m code bit (zny key f g skip truth) := by
 intro s p d h hl hd; simp only [zny, yah, yao, yay] at h hl ⊢
 have a1 := hf s p d h.left (by omega) hd
 generalize hr : f s p = r at *
 generalize hq : g r.1 (p + r.2.length + 1) = q at *
 obtain ⟨b1, b2⟩ := h.right.head
 have c1 := b2.left
 have a2 := hg r.1 (p + r.2.length + 1) d (by rw [hq]; exact c1) (by rw [hq]; omega) hd
 rw [hq] at a2; obtain ⟨e1, e2⟩ := b2.right.head
 obtain ⟨e3, e4⟩ := e2.head
 obtain ⟨e5, _⟩ := e4.head
 have hjump : ∀ x : Int, Way code bit (p + r.2.length + 1 + q.2.length + 1) x (p + r.2.length + 1 + q.2.length + 1 + 1 + 1) x := fun x =>
  .cons (.jump e3 rfl (by simp; omega) (by omega) (by omega)) .nil
 have hconst : ∀ x : Int, 0 <= x -> Way code bit (p + r.2.length + 1 + q.2.length + 1 + 1) x (p + r.2.length + 1 + q.2.length + 1 + 1 + 1) (x + 1) := fun x hx => by
  have := Stp.op (bit := bit) (d := x) e5 (.inl (by simp)) (by simp [zeu]; omega)
  simp [zeu] at this
  exact .cons this .nil
 have fin : p + (r.2.length + (q.2.length + (0 + 1 + 1 + 1) + 1)) = p + r.2.length + 1 + q.2.length + 1 + 1 + 1 := by omega
 rw [fin]; refine a1.trans ?_
 by_cases hb : bit (p + r.2.length) = true
 ·have st : Stp code bit (p + r.2.length) (d + 1) (p + r.2.length + 1 + q.2.length + 1 + 1) (d + 1 - 1) := .cond b1 (by rcases hs with e | e <;> simp [e]) (by rw [if_pos hb]) (by omega) (by omega) (by omega)
  rw [show d + 1 - 1 = d by omega] at st; exact .cons st (hconst d hd)
 ·have st : Stp code bit (p + r.2.length) (d + 1) (p + r.2.length + 1) (d + 1 - 1) := .cond b1 (by rcases hs with e | e <;> simp [e]) (by rw [if_neg hb]; omega) (by omega) (by omega) (by omega)
  rw [show d + 1 - 1 = d by omega] at st; refine .cons st (a2.trans ?_)
  have s2 := Stp.op (bit := bit) (d := d + 1) e1 (.inr (by simp)) (by simp [zeu]; omega)
  simp only [zeu] at s2; simp at s2; exact .cons s2 (hjump _)
theorem zzhx {f g h : Tr1} (hf : z4m code bit f) (hg : z4m code bit g) (hh : z4m code bit h) : z4m code bit (ifT f g h) := by
 intro s p d k hl hd; simp only [ifT, yah, yao] at k hl ⊢
 have a1 := hf s p d k.left (by omega) hd
 generalize hr : f s p = r at *
 generalize hq : g r.1 (p + r.2.length + 1) = q at *
 generalize hw : h q.1 (p + r.2.length + 1 + q.2.length + 1) = w at *
 obtain ⟨b1, b2⟩ := k.right.head
 have a2 := hg r.1 (p + r.2.length + 1) d (by rw [hq]; exact b2.left) (by rw [hq]; omega) hd
 rw [hq] at a2; obtain ⟨e1, e2⟩ := b2.right.head
 have a3 := hh q.1 (p + r.2.length + 1 + q.2.length + 1) d (by rw [hw]; exact e2) (by rw [hw]; omega) hd
 rw [hw] at a3; have fin : p + (r.2.length + (q.2.length + (w.2.length + 1) + 1)) = p + r.2.length + 1 + q.2.length + 1 + w.2.length := by omega
 rw [fin]; refine a1.trans ?_
 by_cases hb : bit (p + r.2.length) = true
 ·have st : Stp code bit (p + r.2.length) (d + 1) (p + r.2.length + 1 + q.2.length + 1) (d + 1 - 1) := .cond b1 (.inl rfl) (by rw [if_pos hb]) (by omega) (by omega) (by omega)
  rw [show d + 1 - 1 = d by omega] at st; exact .cons st a3
 ·have st : Stp code bit (p + r.2.length) (d + 1) (p + r.2.length + 1) (d + 1 - 1) := .cond b1 (.inl rfl) (by rw [if_neg hb]; omega) (by omega) (by omega) (by omega)
  rw [show d + 1 - 1 = d by omega] at st; refine .cons st (a2.trans (.cons (.jump e1 rfl rfl (by omega) (by omega)) .nil))
theorem z69 {op n : Nat} {name : List Nat} {v : zcg} {s : Nt} (h : zc5 valid op v n = true) (h15 : op ≠ 15) (h16 : op ≠ 16) (h18 : op ≠ 18) (hop : op < 256) : zeu (zd1 key op name v n s).2 = n /\ ((zd1 key op name v n s).2.op < 9 \/ 11 < (zd1 key op name v n s).2.op /\ (zd1 key op name v n s).2.op < 255) := by
 unfold zc5 at h; simp only [yac, decide_eq_true_eq] at h; obtain ⟨⟨_, h1⟩, h2⟩ := h
 unfold zra at h1 h2; unfold zd1; by_cases c1 : op = 1
 ·subst c1; simp at h1 h2; subst h2; simp [zeu]
 ·rw [if_neg c1]
  by_cases c2 : op = 2
  ·subst c2; simp at h1 h2; subst h2; simp [zeu]
  ·rw [if_neg c2]
   rw [if_neg (by omega)] at h1 h2
   by_cases c3 : op = 3 \/ op = 4 \/ op = 5
   ·rw [if_pos c3]
    have hn : (n : Int) = 1 := by
     rcases c3 with e | e | e <;> subst e <;> simp at h1 h2 <;> omega
    refine ⟨?_, .inl (by simp; omega)⟩
    simp only [zeu]; rw [if_pos (by omega), hn]
   ·rw [if_neg c3]
    by_cases c6 : op = 6
    ·subst c6; simp [zeu]
    ·rw [if_neg c6]
     rw [if_neg (by omega), if_neg c6, if_neg (by omega), if_neg (by omega)] at h1 h2
     by_cases c8 : op = 21 \/ op = 22 \/ op = 23
     ·rw [if_pos c8]
      rw [if_neg (by omega)] at h1 h2
      refine ⟨?_, .inl (by simp)⟩
      simp only [zeu]; rw [if_neg (by omega), if_neg (by omega), if_neg (by omega), if_pos trivial]
      by_cases c22 : op = 22
      ·rw [if_neg (by omega), if_pos c22] at h1 h2
       rw [if_pos (by omega)]; simp at h1 h2; omega
      ·rw [if_pos (by omega)] at h1 h2
       rw [if_neg (by omega)]; simp at h1 h2; omega
     ·rw [if_neg c8]
      by_cases c19 : op = 19
      ·rw [if_pos c19]
       subst c19; simp at h1 h2; simp [zeu]; omega
      ·rw [if_neg c19]
       refine ⟨?_, .inl (by simp)⟩
       simp only [zeu]; rw [if_neg (by omega), if_neg (by omega), if_pos trivial]
       by_cases ca : op = 17 \/ op = 24 \/ op = 25 \/ op = 26
       ·rw [if_pos (by omega)] at h1 h2
        rw [if_pos (by omega)]; simp at h1 h2; omega
       ·rw [if_neg (by omega)] at h1 h2
        rw [if_neg (by omega)]
        by_cases cb : (7 <= op /\ op <= 14) \/ op = 19 \/ op = 20 \/ op = 21 \/ op = 23
        ·rw [if_pos cb] at h1 h2; simp at h1 h2; omega
        ·rw [if_neg cb, if_neg (by omega)] at h1 h2; simp at h1 h2; omega
theorem z3v {op : Nat} {name : List Nat} {v : zcg} {fs : List Tr1} (hop : op < 256) (hf : ∀ f ∈ fs, z4m code bit f) : z4m code bit (zlo key valid op name v fs) := by
 intro s p d h hl hd; unfold zlo at h hl ⊢
 by_cases h0 : zc5 valid op v fs.length = false
 ·simp only [if_pos h0] at h hl ⊢
  obtain ⟨b1, _⟩ := h.head
  have s2 := Stp.op (bit := bit) (d := d) b1 (.inr (by simp)) (by simp [zeu]; omega)
  simp [zeu] at s2
  exact .cons s2 .nil
 ·simp only [if_neg h0] at h hl ⊢
  have h0 : zc5 valid op v fs.length = true := by simpa using h0
  have hn := h0
  unfold zc5 at hn; simp only [yac, decide_eq_true_eq] at hn; by_cases h15 : op = 15
  ·simp only [if_pos h15] at h hl ⊢
   subst h15; have : fs.length = 2 := by have h1 := hn.1.2; have h2 := hn.2; simp [zra] at h1 h2; omega
   match fs, this, hf with
   | [f, g], _, hf => exact zwp (hf f (by simp)) (hf g (by simp)) (.inl rfl) s p d h hl hd
  ·simp only [if_neg h15] at h hl ⊢
   by_cases h16 : op = 16
   ·simp only [if_pos h16] at h hl ⊢
    subst h16; have : fs.length = 2 := by have h1 := hn.1.2; have h2 := hn.2; simp [zra] at h1 h2; omega
    match fs, this, hf with
    | [f, g], _, hf => exact zwp (hf f (by simp)) (hf g (by simp)) (.inr rfl) s p d h hl hd
   ·simp only [if_neg h16] at h hl ⊢
    by_cases h18 : op = 18
    ·simp only [if_pos h18] at h hl ⊢
     subst h18; have : fs.length = 3 := by have h1 := hn.1.2; have h2 := hn.2; simp [zra] at h1 h2; omega
     match fs, this, hf with
     | [f, g, k], _, hf => exact zzhx (hf f (by simp)) (hf g (by simp)) (hf k (by simp)) s p d h hl hd
    ·simp only [if_neg h18] at h hl ⊢
     simp only [yah, yao, yay] at hl ⊢
     have a1 := z1y hf s p d h.left (by omega) hd
     obtain ⟨b1, _⟩ := h.right.head
     obtain ⟨q1, q2⟩ := z69 (key := key) (name := name) (s := (zh1 fs s p).1) h0 h15 h16 h18 hop
     have s2 := Stp.op (bit := bit) (d := d + fs.length) b1 q2 (by rw [q1]; omega)
     rw [q1] at s2; rw [show d + (fs.length : Int) + (1 - (fs.length : Int)) = d + 1 by omega] at s2
     have := a1.trans (.cons s2 .nil)
     rw [show p + ((zh1 fs s p).2.length + (0 + 1)) = p + (zh1 fs s p).2.length + 1 by omega]
     exact this
mutual
theorem z0c : ∀ (x : zam), x.fit -> z4m code bit (trX key valid x)
 | .mk op name v args, h => by
  unfold zam.fit at h; unfold trX; exact z3v h.1 (z0e args h.2.2.2.2.2)
theorem z0e : ∀ (l : List zam), zam.fits l -> ∀ f ∈ trF key valid l, z4m code bit f
 | [], _, f, hf => by unfold trF at hf; cases hf
 | x :: l, h, f, hf => by
  unfold zam.fits at h; unfold trF at hf; rcases yat.1 hf with rfl | hf
  ·exact z0c x h.1
  ·exact z0e l h.2 f hf
end
theorem ends {x : zam} (hx : x.fit) (s : Nt) (bit : Nat -> Bool) : Way (trX key valid x s 0).2 bit 0 0 (trX key valid x s 0).2.length 1 := by
 have := z0c (code := (trX key valid x s 0).2) (bit := bit) x hx s 0 0 (fun k y h => by rw [yax]; exact h) (by omega) (by omega)
 rw [yax] at this; exact this
end
end Go.Am
namespace Go.Am
open Go Go.RowKit
structure Thg where
 blks : List Nat
 ok : Tr zal -> Tr zal -> Prop
 keep : ∀ {tf t tf' t' : Tr zal}, ok tf t -> TLe tf tf' -> (∀ k ∈ blks, t'.get k = t.get k /\ tf'.get k = none) -> ok tf' t'
 live : ∀ {tf t : Tr zal}, ok tf t -> ∀ k ∈ blks, ∃ y, t.get k = some y
structure Objs (base : Nat) (tf t : Tr zal) (l : List Thg) : Prop where
 tle : TLe tf t
 nodup : (l.flatMap Thg.blks).Nodup
 ok : ∀ o ∈ l, o.ok tf t
 low : ∀ k ∈ l.flatMap Thg.blks, base <= k /\ tf.get k = none
def zjy (v : zab) : List Nat := match v with | .slice b _ _ _ => [b] | _ => []
theorem zgu {v : zab} {k : Nat} : k ∈ zjy v ↔ zrw v k := by
 unfold zjy zrw; split
 ·rename_i b o n c
  constructor
  ·intro h; rw [List.mem_singleton] at h; subst h; exact ⟨_, _, _, rfl⟩
  ·rintro ⟨o', n', c', e⟩; cases e; simp
 ·rename_i h
  constructor
  ·intro h; cases h
  ·rintro ⟨o, n, c, e⟩; exact absurd e (h _ _ _ _)
def zfp (b : Nat) (lo : Option Nat) (cs : List zab) : Thg where
 blks := [b]
 ok := fun _ t => Cel t b lo cs
 keep := fun h _ k => h.off (k b (by simp)).1
 live := fun h k hk => by rw [List.mem_singleton] at hk; subst hk; obtain ⟨c, hc, _⟩ := h; exact ⟨_, hc⟩
def zfx (b : Nat) (l : List (zab × zab)) : Thg where
 blks := [b]
 ok := fun _ t => t.get b = some (.map l)
 keep := fun h _ k => by rw [(k b (by simp)).1]; exact h
 live := fun h k hk => by rw [List.mem_singleton] at hk; subst hk; exact ⟨_, h⟩
def zau (base sz : Nat) (l : List D) (v : zab) : Thg where
 blks := zjy v
 ok := fun tf t => Loose base tf t sz l v
 keep := fun h hf k => h.keep hf fun b hb => k b (zgu.2 hb)
 live := fun h k hk => (h.none (zgu.1 hk)).2.2
section
variable {base : Nat} {tf t : Tr zal} {l A B : List Thg} {o o' : Thg}
theorem Objs.live (h : Objs base tf t l) {k : Nat} (hk : k ∈ l.flatMap Thg.blks) : ∃ y, t.get k = some y := by
 obtain ⟨o, ho, hk⟩ := List.mem_flatMap.1 hk
 exact o.live (h.ok o ho) k hk
theorem Objs.fresh (h : Objs base tf t l) {n : Nat} (hn : t.get n = none) : n ∉ l.flatMap Thg.blks := by
 intro hm; obtain ⟨y, hy⟩ := h.live hm
 rw [hn] at hy; cases hy
theorem Objs.tfn (h : Objs base tf t l) {n : Nat} (hn : t.get n = none) : tf.get n = none := by
 cases hq : tf.get n with
 | none => rfl
 | some y => have := h.tle _ _ hq; rw [hn] at this; cases this
theorem Objs.keep (h : Objs base tf t l) {tf' t' : Tr zal} (hf : TLe tf tf') (ht : TLe tf' t') (hk : ∀ k ∈ l.flatMap Thg.blks, t'.get k = t.get k /\ tf'.get k = none) : Objs base tf' t' l :=
 ⟨ht, h.nodup, fun o ho => o.keep (h.ok o ho) hf fun k hk' => hk k (List.mem_flatMap.2 ⟨o, ho, hk'⟩), fun k hk' => ⟨(h.low k hk').1, (hk k hk').2⟩⟩
theorem Objs.junk (h : Objs base tf t l) {n : Nat} {t' : Tr zal} (hn : t.get n = none) (ho : Off n t t') : Objs base tf t' l :=
 h.keep (TLe.refl _) (h.tle.off (h.tfn hn) ho) fun k hk => ⟨ho k (fun e : k = n => h.fresh hn (e ▸ hk)), (h.low k hk).2⟩
theorem Objs.other (h : Objs base tf t l) {n : Nat} {t' : Tr zal} (hn : n ∉ l.flatMap Thg.blks) (hf : tf.get n = none) (ho : Off n t t') : Objs base tf t' l :=
 h.keep (TLe.refl _) (h.tle.off hf ho) fun k hk => ⟨ho k (fun e : k = n => hn (e ▸ hk)), (h.low k hk).2⟩
theorem Objs.froze (h : Objs base tf t l) {n : Nat} {y : zal} (hn : n ∉ l.flatMap Thg.blks) (hy : t.get n = some y) (hf : tf.get n = none) : Objs base (tf.set n y) t l /\ TLe tf (tf.set n y) := by
 have h1 := (zdb (t := tf) hf y).1
 refine ⟨h.keep h1 (fun k u hk => ?_) fun k hk => ⟨rfl, ?_⟩, h1⟩
 ·rw [Tr.get_set] at hk
  split at hk
  ·rename_i e; subst e; cases hk; exact hy
  ·exact h.tle _ _ hk
 ·rw [Tr.get_set, if_neg (fun e : k = n => hn (e ▸ hk))]; exact (h.low k hk).2
theorem zh6 : (A ++ o :: B).flatMap Thg.blks = A.flatMap Thg.blks ++ (o.blks ++ B.flatMap Thg.blks) := by simp
theorem Objs.upd (h : Objs base tf t (A ++ o :: B)) {t' : Tr zal} (hk : ∀ k, k ∉ o.blks -> k ∉ o'.blks -> t'.get k = t.get k) (hn : ∀ k ∈ o'.blks, k ∈ o.blks \/ (t.get k = none /\ base <= k)) (hok : o'.ok tf t') (hnd : o'.blks.Nodup) (ht : TLe tf t') : Objs base tf t' (A ++ o' :: B) := by
 have hd := h.nodup
 rw [zh6] at hd; rw [List.nodup_append] at hd; obtain ⟨d1, d2, d3⟩ := hd
 rw [List.nodup_append] at d2; obtain ⟨d4, d5, d6⟩ := d2
 have oth : ∀ k, k ∈ A.flatMap Thg.blks \/ k ∈ B.flatMap Thg.blks -> k ∉ o.blks /\ k ∉ o'.blks /\ t'.get k = t.get k /\ base <= k /\ tf.get k = none := by
  intro k hk'; have hm : k ∈ (A ++ o :: B).flatMap Thg.blks := by rw [zh6]; simp only [List.mem_append]; rcases hk' with h | h <;> simp [h]
  have h1 : k ∉ o.blks := fun hc => by
   rcases hk' with h' | h'
   ·exact d3 k h' k (by simp [hc]) rfl
   ·exact d6 k hc k h' rfl
  have h2 : k ∉ o'.blks := fun hc => by
   rcases hn k hc with h' | h'
   ·exact h1 h'
   ·obtain ⟨y, hy⟩ := h.live hm
    rw [h'.1] at hy; cases hy
  exact ⟨h1, h2, hk k h1 h2, h.low k hm⟩
 have mem : ∀ k, k ∈ (A ++ o' :: B).flatMap Thg.blks -> (k ∈ A.flatMap Thg.blks \/ k ∈ B.flatMap Thg.blks) \/ k ∈ o'.blks := by
  intro k hk'; rw [zh6] at hk'
  simp only [List.mem_append] at hk'
  rcases hk' with h | h | h
  ·exact .inl (.inl h)
  ·exact .inr h
  ·exact .inl (.inr h)
 refine ⟨ht, ?_, fun p hp => ?_, fun k hk' => ?_⟩
 ·rw [zh6, List.nodup_append]
  refine ⟨d1, ?_, fun x hx y hy e => ?_⟩
  ·rw [List.nodup_append]
   exact ⟨hnd, d5, fun x hx y hy e => (oth y (.inr hy)).2.1 (e ▸ hx)⟩
  ·subst e
   rcases List.mem_append.1 hy with h' | h'
   ·exact (oth x (.inl hx)).2.1 h'
   ·exact d3 x hx x (by simp [h']) rfl
 ·have hp' : p ∈ A \/ p = o' \/ p ∈ B := by simpa using hp
  rcases hp' with h' | h' | h'
  ·exact p.keep (h.ok p (by simp [h'])) (TLe.refl _) fun k hk' => by
    obtain ⟨_, _, e, _, f⟩ := oth k (.inl (List.mem_flatMap.2 ⟨p, h', hk'⟩)); exact ⟨e, f⟩
  ·subst h'; exact hok
  ·exact p.keep (h.ok p (by simp [h'])) (TLe.refl _) fun k hk' => by
    obtain ⟨_, _, e, _, f⟩ := oth k (.inr (List.mem_flatMap.2 ⟨p, h', hk'⟩)); exact ⟨e, f⟩
 ·rcases mem k hk' with h' | h'
  ·obtain ⟨_, _, _, e, f⟩ := oth k h'; exact ⟨e, f⟩
  ·rcases hn k h' with h'' | h''
   ·exact h.low k (by rw [zh6]; simp [h''])
   ·exact ⟨h''.2, h.tfn h''.1⟩
def zzce : Thg := ⟨[], fun _ _ => True, fun _ _ _ => trivial, fun _ _ h => by cases h⟩
theorem Objs.add (h : Objs base tf t (A ++ B)) {t' : Tr zal} (hk : ∀ k, k ∉ o'.blks -> t'.get k = t.get k) (hn : ∀ k ∈ o'.blks, t.get k = none /\ base <= k) (hok : o'.ok tf t') (hnd : o'.blks.Nodup) (ht : TLe tf t') : Objs base tf t' (A ++ o' :: B) := by
 have e : Objs base tf t (A ++ zzce :: B) := by
  have hm : (A ++ zzce :: B).flatMap Thg.blks = (A ++ B).flatMap Thg.blks := by simp [zzce]
  refine ⟨h.tle, by rw [hm]; exact h.nodup, fun o ho => ?_, fun k hk => h.low k (by rw [hm] at hk; exact hk)⟩
  have : o ∈ A \/ o = zzce \/ o ∈ B := by simpa using ho
  rcases this with h' | h' | h'
  ·exact h.ok o (by simp [h'])
  ·subst h'; trivial
  ·exact h.ok o (by simp [h'])
 exact e.upd (fun k _ h2 => hk k h2) (fun k hk => .inr (hn k hk)) hok hnd ht
theorem Objs.drop (h : Objs base tf t (A ++ o :: B)) : Objs base tf t (A ++ B) := by
 have hd := h.nodup
 rw [zh6] at hd; refine ⟨h.tle, ?_, fun p hp => h.ok p (by rcases List.mem_append.1 hp with h | h <;> simp [h]), fun k hk => h.low k (by rw [zh6]; rw [List.flatMap_append] at hk; rcases List.mem_append.1 hk with h | h <;> simp [h])⟩
 rw [List.flatMap_append]; rw [List.nodup_append] at hd ⊢
 obtain ⟨d1, d2, d3⟩ := hd
 rw [List.nodup_append] at d2; exact ⟨d1, d2.2.1, fun x hx y hy e => d3 x hx y (by simp [hy]) e⟩
theorem Objs.notin (h : Objs base tf t (A ++ o :: B)) {k : Nat} (hk : k ∈ o.blks) : k ∉ (A ++ B).flatMap Thg.blks := by
 have hd := h.nodup
 rw [zh6, List.nodup_append] at hd; obtain ⟨d1, d2, d3⟩ := hd
 rw [List.nodup_append] at d2; rw [List.flatMap_append]; intro hm; rcases List.mem_append.1 hm with h' | h'
 ·exact d3 k h' k (by simp [hk]) rfl
 ·exact d2.2.2 k hk k h' rfl
theorem Objs.freezeL {sz : Nat} {m : List D} {v : zab} (h : Objs base tf t (A ++ zau base sz m v :: B)) : ∃ tf', TLe tf tf' /\ Objs base tf' t (A ++ B) /\ RSl tf' sz m v := by
 have hl : Loose base tf t sz m v := h.ok (zau base sz m v) (by simp)
 obtain ⟨tf', h1, h2, h3, h4⟩ := hl.freeze h.tle
 refine ⟨tf', h1, h.drop.keep h1 h2 fun k hk => ⟨rfl, ?_⟩, h3⟩
 have hb : ¬ zrw v k := fun hb => h.notin (o := zau base sz m v) (zgu.2 hb) hk
 rw [h4 k hb]; exact (h.drop.low k hk).2
end
end Go.Am
namespace Go.Proofs
open Go Go.Am
variable [zcf]
variable {t tf : Tr zal}
def _root_.Go.Am.XIns.d (i : XIns) : D := .st [.int .u8 i.op, .int .i64 i.a, .int .i64 i.b]
def _root_.Go.Am.XIns.cells (i : XIns) : List zab := [.int .u8 i.op, .int .i64 i.a, .int .i64 i.b]
theorem z6x {i : XIns} {cs : List zab} : RD t i.d cs ↔ cs = i.cells := by
 unfold XIns.d XIns.cells; simp only [zig, zbc, zbv, zgk]; constructor
 ·rintro ⟨cl, rfl, c, r, rfl, rfl, c', r', rfl, rfl, c'', r'', rfl, rfl, rfl⟩; rfl
 ·rintro rfl; exact ⟨[[.int .u8 i.op], [.int .i64 i.a], [.int .i64 i.b]], rfl, _, _, rfl, rfl, _, _, rfl, rfl, _, _, rfl, rfl, rfl⟩
def zay : Nat -> List (List Nat) -> List (zab × zab)
 | _, [] => []
 | i, k :: l => (.str k, .int .i64 (i : Int)) :: zay (i + 1) l
theorem zwl {a b : List Nat} : zwm (.str a) (.str b) = some (decide (a = b)) := by
 unfold zwm; simp only [zab.asIntK, zab.asStr, zac]; congr 1
 cases h : zjx a b with
 | true => rw [decide_eq_true ((zfi _ _).1 h)]
 | false => rw [decide_eq_false (fun e => by rw [(zfi _ _).2 e] at h; cases h)]
theorem zs3 {k : List Nat} : ∀ (l : List (List Nat)) (i : Nat), zuj (.str k) (zay i l) = some (if k ∈ l then some (.int .i64 ((i + zqq k l : Nat) : Int)) else none)
 | [], i => by simp [zay, zuj]
 | x :: l, i => by
  unfold zay zuj zqq; rw [zwl, zac]; by_cases h : k = x
  ·simp [h]
  ·simp only [h, decide_false, cond_false, if_false, yat, false_or]
   rw [zs3 l (i + 1)]
   rw [show i + 1 + zqq k l = i + (zqq k l + 1) by omega]
theorem zob {k : List Nat} : ∀ (l : List (List Nat)) (i : Nat), k ∉ l -> zjb (.str k) (.int .i64 ((i + l.length : Nat) : Int)) (zay i l) = some (zay i (l ++ [k]))
 | [], i, _ => by simp [zay, zjb]
 | x :: l, i, h => by
  simp only [List.cons_append, zay]; unfold zjb; rw [zwl, zac]; have h1 : k ≠ x := fun e => h (e ▸ yaz)
  have := zob l (i + 1) (fun m => h (yas _ m))
  simp only [h1, decide_false, cond_false]; rw [yao, show i + (l.length + 1) = i + 1 + l.length by omega, this, zac]
structure TR where
 b : Nat
 pl : List zab
 vn : zab
 vc : zab
 vw : zab
 vt : zab
 vk : zab
 m1 : Nat
 m2 : Nat
def TR.kp (r : TR) : List zab × zab × zab := (r.pl, r.vw, r.vt)
structure XSt where
 names : List (List Nat)
 consts : List zcg
 ws : List D
 ts : List D
 code : List XIns
abbrev bs : Nat := C19.base
def TR.cells (r : TR) : List zab := r.pl ++ [r.vn, r.vc, r.vw, r.vt, .map r.m1, .map r.m2, r.vk]
def tsL (key : zcg -> List Nat) (r : TR) (s : XSt) : List Thg :=
 [zfp r.b none r.cells, zfx r.m1 (zay 0 s.names), zfx r.m2 (zay 0 (s.consts.map key)), zau C19.base 1 (s.names.map D.str) r.vn, zau C19.base 6 (s.consts.map zcg.d) r.vc, zau C19.base 1 s.ws r.vw, zau C19.base 1 s.ts r.vt, zau C19.base 3 (s.code.map XIns.d) r.vk]
structure TS (key : zcg -> List Nat) (tf t : Tr zal) (r : TR) (s : XSt) : Prop where
 pl : r.pl.length = 4
 os : Objs C19.base tf t (tsL key r s)
section
variable {key : zcg -> List Nat} {r : TR} {s : XSt}
theorem TS.cel (h : TS key tf t r s) : Cel t r.b none r.cells := h.os.ok (zfp r.b none r.cells) (by simp [tsL])
theorem TS.map1 (h : TS key tf t r s) : t.get r.m1 = some (.map (zay 0 s.names)) := h.os.ok (zfx r.m1 (zay 0 s.names)) (by simp [tsL])
theorem TS.map2 (h : TS key tf t r s) : t.get r.m2 = some (.map (zay 0 (s.consts.map key))) := h.os.ok (zfx r.m2 (zay 0 (s.consts.map key))) (by simp [tsL])
theorem TS.ln (h : TS key tf t r s) : Loose C19.base tf t 1 (s.names.map D.str) r.vn := h.os.ok (zau C19.base 1 (s.names.map D.str) r.vn) (by simp [tsL])
theorem TS.lc (h : TS key tf t r s) : Loose C19.base tf t 6 (s.consts.map zcg.d) r.vc := h.os.ok (zau C19.base 6 (s.consts.map zcg.d) r.vc) (by simp [tsL])
theorem TS.lk (h : TS key tf t r s) : Loose C19.base tf t 3 (s.code.map XIns.d) r.vk := h.os.ok (zau C19.base 3 (s.code.map XIns.d) r.vk) (by simp [tsL])
theorem TS.baseB (h : TS key tf t r s) : C19.base <= r.b /\ tf.get r.b = none := h.os.low r.b (by simp [tsL, zfp])
theorem TS.inB {key : zcg -> List Nat} {r : TR} {s : XSt} : r.b ∈ (tsL key r s).flatMap Thg.blks := by simp [tsL, zfp]
theorem TS.junk (h : TS key tf t r s) {n : Nat} {t' : Tr zal} (hn : t.get n = none) (ho : Off n t t') : TS key tf t' r s := ⟨h.pl, h.os.junk hn ho⟩
theorem TS.other (h : TS key tf t r s) {n : Nat} {t' : Tr zal} (hn : n ∉ (tsL key r s).flatMap Thg.blks) (hf : tf.get n = none) (ho : Off n t t') : TS key tf t' r s := ⟨h.pl, h.os.other hn hf ho⟩
theorem TS.fresh (h : TS key tf t r s) {n : Nat} (hn : t.get n = none) : n ∉ (tsL key r s).flatMap Thg.blks := h.os.fresh hn
theorem TS.froze (h : TS key tf t r s) {n : Nat} {y : zal} (hn : n ∉ (tsL key r s).flatMap Thg.blks) (hy : t.get n = some y) (hf : tf.get n = none) : TS key (tf.set n y) t r s /\ TLe tf (tf.set n y) := ⟨⟨h.pl, (h.os.froze hn hy hf).1⟩, (h.os.froze hn hy hf).2⟩
theorem zp8 {p : List zab} (h : p.length = 4) {l : List zab} {k : Nat} : (p ++ l)[4 + k]? = l[k]? := by
 rw [yaq (by omega)]; congr 1; omega
theorem zoe {p : List zab} (h : p.length = 4) {l : List zab} {k : Nat} {v : zab} : (p ++ l).set (4 + k) v = p ++ l.set k v := by
 rw [List.set_append_right _ _ (by omega)]; congr 1; congr 1; omega
theorem TS.ldN (h : TS key tf t r s) : zap C19 30 ⟨0, t⟩ (.ptr r.b 4) = some r.vn := h.cel.load1 ty30 rfl (zp8 (k := 0) h.pl)
theorem TS.ldC (h : TS key tf t r s) : zap C19 31 ⟨0, t⟩ (.ptr r.b 5) = some r.vc := h.cel.load1 ty31 rfl (zp8 (k := 1) h.pl)
theorem TS.ldM1 (h : TS key tf t r s) : zap C19 107 ⟨0, t⟩ (.ptr r.b 8) = some (.map r.m1) := h.cel.load1 zza7 rfl (zp8 (k := 4) h.pl)
theorem TS.ldM2 (h : TS key tf t r s) : zap C19 107 ⟨0, t⟩ (.ptr r.b 9) = some (.map r.m2) := h.cel.load1 zza7 rfl (zp8 (k := 5) h.pl)
theorem TS.ldK (h : TS key tf t r s) : zap C19 37 ⟨0, t⟩ (.ptr r.b 10) = some r.vk := h.cel.load1 zza5 rfl (zp8 (k := 6) h.pl)
end
theorem znv {b : Nat} : zaj C19 109 3 (.ptr b 0) = some (.ptr b 10) := by kernel_rfl
theorem zgc {b : Nat} : zaj C19 109 0 (.ptr b 0) = some (.ptr b 0) := by kernel_rfl
theorem zzh7 {b : Nat} : zaj C19 109 1 (.ptr b 0) = some (.ptr b 8) := by kernel_rfl
theorem zzh6 {b : Nat} : zaj C19 109 2 (.ptr b 0) = some (.ptr b 9) := by kernel_rfl
theorem zzfu {b : Nat} : zaj C19 34 1 (.ptr b 0) = some (.ptr b 4) := by kernel_rfl
theorem zwv {b : Nat} : zaj C19 34 2 (.ptr b 0) = some (.ptr b 5) := by kernel_rfl
theorem zzft {b : Nat} : zaj C19 34 3 (.ptr b 0) = some (.ptr b 6) := by kernel_rfl
theorem z9j {b : Nat} : zaj C19 34 4 (.ptr b 0) = some (.ptr b 7) := by kernel_rfl
theorem zc7 {b o : Nat} : zrn (.ptr b o) = some (.ptr b o) := by kernel_rfl
theorem z0t {d b o : Nat} : same d (.ptr b o) (.ptr b o) = true := by
 have e : ∀ n, Nat.beq n n = true := Nat.beq_refl
 cases d <;> (unfold Am.same; simp only [e, Bool.and_self])
end Go.Proofs
namespace Go.Proofs
open Go Go.Am
variable [zcf]
variable {t tf : Tr zal} {key : zcg -> List Nat} {r : TR} {s : XSt}
theorem el37 : zxq C19 37 54 3 := ⟨⟨_, zza5, rfl, rfl⟩, ⟨_, ty54, rfl, rfl, by decide, by decide⟩⟩
theorem zzhf {n : Nat} {i : XIns} (hn : t.get n = none) : ∃ t', za0 C19 37 1 [(0, .agg [.int .u8 i.op, .int .i64 i.a, .int .i64 i.b])] ⟨n, t⟩ = some (.slice n 0 1 1, ⟨n + 1, t'⟩) /\ zhn t' 3 (.slice n 0 1 1) [i.cells] /\ TLe t t' /\ Off n t t' :=
 zhf (C := C19) (T := 37) (el := 54) (sz := 3) (n := 1) (cl := [i.cells]) zza5 rfl ty54 rfl rfl (by decide) rfl (fun k cs hk => by
  cases k with
  | zero => simp at hk; subst hk; rfl
  | succ k => simp at hk) rfl hn
def Tgt (tf : Tr zal) (b : Nat) (v : zab) (i : Nat) : Prop := ∃ n m, v = .func (.func 232) [] [.ptr n 0, .ptr m 0] /\ Cel tf n none [.ptr b 0] /\ Cel tf m none [.int .i64 (i : Int)]
theorem Tgt.mono {tf' : Tr zal} {b i : Nat} {v : zab} (h : Tgt tf b v i) (hf : TLe tf tf') : Tgt tf' b v i := by
 obtain ⟨n, m, rfl, ⟨c, h1, h2⟩, ⟨d, h3, h4⟩⟩ := h
 exact ⟨n, m, rfl, ⟨c, hf _ _ h1, h2⟩, ⟨d, hf _ _ h3, h4⟩⟩
theorem zot {i : XIns} {Q : zaw} (h : TS key tf t r s) (hl : s.code.length < 300000)
  (hQ : ∀ tf' t' r' v, TLe tf tf' -> r'.b = r.b -> r'.kp = r.kp -> TS key tf' t' r' ⟨s.names, s.consts, s.ws, s.ts, s.code ++ [i]⟩ -> Tgt tf' r.b v s.code.length -> Q v t') : Wc C19 F 168 [.ptr r.b 0, .int .u8 i.op, .int .i64 i.a, .int .i64 i.b] t Q := by
 refine w168 _ _ _ _ ?_
 simp only [t168, wpT]; intro n0 hn0 hb0; obtain ⟨t1, a1, a2, a3, a4⟩ := z97 (v := .ptr r.b 0) hn0
 have h1 := h.junk hn0 a4
 have a2 : Cel t1 n0 none [.ptr r.b 0] := a2
 have l0 : ∀ t', t'.get n0 = t1.get n0 -> zap C19 106 ⟨0, t'⟩ (.ptr n0 0) = some (.ptr r.b 0) := fun t' e => (a2.off e).load1 ty106 rfl rfl
 rw [a1, zaa, l0 t1 rfl, zaa, zc7, zaa, znv, zaa, h1.ldK, zaa, h1.lk.len, zaa, yag, zag, zaa]; intro n1 hn1 hb1; obtain ⟨t2, b1, b2, b3, b4⟩ := zrb (C := C19) ty3 hn1
 have h2 := h1.junk hn1 b4
 have ne01 : n0 ≠ n1 := by
  intro e; subst e; obtain ⟨c, hc, _⟩ := a2
  rw [hc] at hn1; cases hn1
 rw [b1, zaa]; intro m2 _ _; obtain ⟨t3, c1, c2, c3⟩ := b2.store1 (C := C19) hb1 (j := 0) (v := .int .i64 (s.code.length : Int)) ty3 rfl rfl rfl (by decide)
 have c2 : Cel t3 n1 none [.int .i64 (s.code.length : Int)] := c2
 have h3 : TS key tf t3 r s := h2.other (h1.fresh hn1) (h1.os.tfn hn1) c3
 have e03 : t3.get n0 = t1.get n0 := by rw [c3 n0 ne01, b4 n0 ne01]
 rw [c1, zaa, l0 t3 e03, zaa]; simp only [l0 t3 e03, zaa, zc7, znv, h3.ldK, if_true]; intro n3 hn3 hb3; obtain ⟨t4, d1, d2, d3, d4⟩ := zzhf (i := i) hn3
 have h4 := h3.junk hn3 d4
 have ne03 : n0 ≠ n3 := by
  intro e; subst e; obtain ⟨c, hc, _⟩ := a2
  rw [e03, hc] at hn3; cases hn3
 have ne13 : n1 ≠ n3 := by
  intro e; subst e; obtain ⟨c, hc, _⟩ := c2
  rw [hc] at hn3; cases hn3
 have e04 : t4.get n0 = t1.get n0 := by rw [d4 n0 ne03, e03]
 rw [d1, zaa]; simp only [l0 t4 e04, zaa, z0t, if_true, h4.ldK, h4.lk.same]; intro n4 hn4 hb4; obtain ⟨t5, f1, f2, f3, f4⟩ := zf6 (C := C19) el37 (m := [i.d]) h4.lk d2 (by
  rw [zbc]; exact ⟨_, _, rfl, z6x.2 rfl, zbv.2 rfl⟩) (by
  intro a ha; simp only [XIns.cells, List.flatten_cons, List.flatten_nil, ybe, yat, List.not_mem_nil, or_false] at ha; rcases ha with rfl | rfl | rfl <;> rfl) (by simp) (by simp; omega) hn4 hb4 h4.os.tle
 have ne04 : n0 ≠ n4 := by
  intro e; subst e; obtain ⟨c, hc, _⟩ := a2
  rw [e04, hc] at hn4; cases hn4
 have c24 : Cel t4 n1 none [.int .i64 (s.code.length : Int)] := c2.off (d4 n1 ne13)
 have ne14 : n1 ≠ n4 := by
  intro e; subst e; obtain ⟨c, hc, _⟩ := c24
  rw [hc] at hn4; cases hn4
 have nin0 := h.fresh hn0
 have nin1 := h1.fresh hn1
 have inK : ∀ k, zrw r.vk k -> k ∈ (tsL key r s).flatMap Thg.blks := fun k hk => by
  have := zgu.2 hk
  simp [tsL, zfp, zfx, zau, this]
 have e05 : t5.get n0 = t1.get n0 := by rw [f4 n0 ne04 (fun e => nin0 (inK _ e)), e04]
 have e15 : t5.get n1 = t3.get n1 := by rw [f4 n1 ne14 (fun e => nin1 (inK _ e)), d4 n1 ne13]
 rw [f1, zaa]; dsimp only
 rw [l0 t5 e05, zaa, if_pos z0t]; intro m6 _ _; have ec : (s.code.map XIns.d).length + [i.d].length = (s.code ++ [i]).length := by simp
 have hd : s.code.map XIns.d ++ [i.d] = (s.code ++ [i]).map XIns.d := by simp
 rw [ec, hd] at f2; have o5 : Objs C19.base tf t5 ([zfp r.b none r.cells, zfx r.m1 (zay 0 s.names), zfx r.m2 (zay 0 (s.consts.map key)), zau C19.base 1 (s.names.map D.str) r.vn, zau C19.base 6 (s.consts.map zcg.d) r.vc, zau C19.base 1 s.ws r.vw, zau C19.base 1 s.ts r.vt] ++ zau C19.base 3 ((s.code ++ [i]).map XIns.d) (.slice n4 0 (s.code ++ [i]).length (s.code ++ [i]).length) :: []) := by
  refine Objs.upd (o := zau C19.base 3 (s.code.map XIns.d) r.vk) h4.os (fun k k1 k2 => f4 k ?_ (fun e => k1 (zgu.2 e))) (fun k hk => ?_) f2 (by simp [zau, zjy]) f3
  ·intro e; subst e; exact k2 (by simp [zau, zjy])
  ·have : k = n4 := by simpa [zau, zjy] using hk
   subst this; exact .inr ⟨hn4, hb4⟩
 have cel5 : Cel t5 r.b none r.cells := o5.ok (zfp r.b none r.cells) (by simp)
 have hlen : r.cells.length = 11 := by simp [TR.cells, h.pl]
 obtain ⟨t6, g1, g2, g3⟩ := cel5.store1 (C := C19) h.baseB.1 (j := 10) (v := .slice n4 0 (s.code ++ [i]).length (s.code ++ [i]).length) zza5 rfl rfl rfl (by omega)
 rw [ec, g1, zaa]; have es : r.cells.set 10 (.slice n4 0 (s.code ++ [i]).length (s.code ++ [i]).length) = TR.cells ⟨r.b, r.pl, r.vn, r.vc, r.vw, r.vt, .slice n4 0 (s.code ++ [i]).length (s.code ++ [i]).length, r.m1, r.m2⟩ := zoe (k := 6) h.pl
 rw [es] at g2; have o6 : Objs C19.base tf t6 (tsL key ⟨r.b, r.pl, r.vn, r.vc, r.vw, r.vt, .slice n4 0 (s.code ++ [i]).length (s.code ++ [i]).length, r.m1, r.m2⟩ ⟨s.names, s.consts, s.ws, s.ts, s.code ++ [i]⟩) := by
  refine Objs.upd (A := []) (o := zfp r.b none r.cells) o5 (fun k k1 _ => g3 k (fun e => k1 (by simp [zfp, e]))) (fun k hk => .inl hk) g2 (by simp [zfp]) (f3.off h.baseB.2 g3)
 have h6 : TS key tf t6 ⟨r.b, r.pl, r.vn, r.vc, r.vw, r.vt, .slice n4 0 (s.code ++ [i]).length (s.code ++ [i]).length, r.m1, r.m2⟩ ⟨s.names, s.consts, s.ws, s.ts, s.code ++ [i]⟩ := ⟨h.pl, o6⟩
 have nr0 : n0 ≠ r.b := fun e => nin0 (e ▸ TS.inB)
 have nr1 : n1 ≠ r.b := fun e => nin1 (e ▸ TS.inB)
 have e06 : t6.get n0 = t1.get n0 := by rw [g3 n0 nr0, e05]
 have e16 : t6.get n1 = t3.get n1 := by rw [g3 n1 nr1, e15]
 have notin : ∀ n, n ∉ (tsL key r s).flatMap Thg.blks -> n ≠ n4 -> n ∉ (tsL key ⟨r.b, r.pl, r.vn, r.vc, r.vw, r.vt, .slice n4 0 (s.code ++ [i]).length (s.code ++ [i]).length, r.m1, r.m2⟩ ⟨s.names, s.consts, s.ws, s.ts, s.code ++ [i]⟩).flatMap Thg.blks := by
  intro n h1 h2 h3; simp only [tsL, zfp, zfx, zau, List.flatMap_cons, List.flatMap_nil, List.mem_append, List.mem_singleton, ybe, not_or] at h1 h3; simp only [zjy, List.mem_singleton] at h3; simp only [zjy] at h1
  obtain ⟨k1, k2, k3, k4, k5, k6, k7, k8⟩ := h1
  rcases h3 with h | h | h | h | h | h | h | h
  ·exact k1 h
  ·exact k2 h
  ·exact k3 h
  ·exact k4 h
  ·exact k5 h
  ·exact k6 h
  ·exact k7 h
  ·exact h2 h
 have tn1 : t.get n1 = none := by rw [<- a4 n1 (Ne.symm ne01)]; exact hn1
 obtain ⟨x0, hx0, hx0'⟩ := a2
 obtain ⟨x1, hx1, hx1'⟩ := c2
 obtain ⟨h7, q7⟩ := h6.froze (n := n0) (notin n0 nin0 ne04) (by rw [e06]; exact hx0) (h.os.tfn hn0)
 obtain ⟨h8, q8⟩ := h7.froze (n := n1) (notin n1 nin1 ne14) (by rw [e16]; exact hx1) (by rw [Tr.get_set, if_neg (Ne.symm ne01)]; exact h.os.tfn tn1)
 refine hQ _ t6 ⟨r.b, r.pl, r.vn, r.vc, r.vw, r.vt, .slice n4 0 (s.code ++ [i]).length (s.code ++ [i]).length, r.m1, r.m2⟩ _ (q7.trans q8) rfl rfl h8 ⟨n0, n1, rfl, ⟨x0, ?_, hx0'⟩, ⟨x1, ?_, hx1'⟩⟩
 ·rw [Tr.get_set, if_neg ne01, Tr.get_set, if_pos rfl]
 ·rw [Tr.get_set, if_pos rfl]
theorem _root_.Go.Am.Loose.own {base sz : Nat} {l : List D} {b n k : Nat} (h : Loose base tf t sz l (.slice b 0 n k)) : OwnD base tf t sz l b (some sz) := by
 rcases h with ⟨e1, _⟩ | ⟨b', cl, c, e1, k0, k1, k2, k3, k4⟩
 ·cases e1
 ·cases e1
  have hcl := k4.length
  have hcl3 : ∀ (j : Nat) cs, cl[j]? = some cs -> cs.length = sz := fun j cs hj => (k3 j cs hj).1
  have hfl := zf0 hcl3
  refine ⟨k0, k1, cl, ⟨c, by rw [hfl, hcl]; exact k2, fun j a hj => ?_⟩, hcl3, k4⟩
  have hj2 : j < cl.length * sz := by rw [<- hfl]; exact (yad.1 hj).1
  have hpos : 0 < sz := by
   rcases Nat.eq_zero_or_pos sz with e | e
   ·subst e; simp at hj2
   ·exact e
  have q1 : j / sz < cl.length := Nat.div_lt_of_lt_mul (by rw [yai]; exact hj2)
  have hq : cl[j / sz]? = some cl[j / sz] := yae q1
  have hql := hcl3 _ _ hq
  obtain ⟨a', hx⟩ : ∃ a', cl[j / sz][j % sz]? = some a' := ⟨_, yae (l := cl[j / sz]) (i := j % sz) (by rw [hql]; exact Nat.mod_lt _ hpos)⟩
  have e := zf1 hcl3 _ _ _ _ hq hx
  have ej : j / sz * sz + j % sz = j := by rw [yai]; exact ybi j sz
  rw [ej, hj] at e; have := (k3 _ _ hq).2 _ _ hx
  rw [ej] at this; rw [this, <- Option.some.inj e]
theorem _root_.Go.Am.OwnD.loose {base sz : Nat} {l : List D} {b n : Nat} (h : OwnD base tf t sz l b (some sz)) (hn : l.length = n) : Loose base tf t sz l (.slice b 0 n n) := by
 obtain ⟨h1, h2, cl, ⟨c, h3, h4⟩, h5, h6⟩ := h
 subst hn; have := h6.length
 refine .inr ⟨b, cl, c, rfl, h1, h2, by rw [h3, zf0 h5, this], fun i cs hi => ⟨h5 i cs hi, fun j a hj => h4 _ _ (zf1 h5 i j cs a hi hj)⟩, h6⟩
theorem zl9 {i : Nat} {v : zab} {Q : zaw} {x : XIns} (h : TS key tf t r s) (hv : Tgt tf r.b v i) (hi : s.code[i]? = some x) (hl : s.code.length < 300000)
  (hQ : ∀ t', TS key tf t' r ⟨s.names, s.consts, s.ws, s.ts, s.code.set i ⟨x.op, s.code.length, x.b⟩⟩ -> Q (.tup []) t') : zed (zn1 v []) fun p => Wq C19 F za2 p.1 p.2 t Q := by
 obtain ⟨n, m, rfl, h1, h2⟩ := hv
 have ef : zn1 (.func (.func 232) [] [.ptr n 0, .ptr m 0]) [] = some (232, [.ptr n 0, .ptr m 0]) := rfl
 rw [ef, zaa, q232]; have htle := h.os.tle
 have l0 : zap C19 106 ⟨0, t⟩ (.ptr n 0) = some (.ptr r.b 0) := zeg (H := ⟨0, tf⟩) (fun _ _ k => htle _ _ k) (h1.load1 ty106 rfl rfl)
 have l1 : zap C19 3 ⟨0, t⟩ (.ptr m 0) = some (.int .i64 (i : Int)) := zeg (H := ⟨0, tf⟩) (fun _ _ k => htle _ _ k) (h2.load1 ty3 rfl rfl)
 have hlt : i < s.code.length := (yad.1 hi).1
 refine w232 _ _ ?_
 simp only [t232, wpT]; obtain ⟨b, e1⟩ : ∃ b, r.vk = .slice b 0 s.code.length s.code.length := by
  rcases h.lk with ⟨_, e2⟩ | ⟨b, cl, c, e1, _⟩
  ·have : s.code = [] := List.map_eq_nil_iff.1 e2
   rw [this] at hlt; simp at hlt
  ·rw [yag] at e1; exact ⟨b, e1⟩
 have ldk := h.ldK
 have hlk := h.lk
 rw [e1] at ldk hlk; have ia : zaf C19 37 (.slice b 0 s.code.length s.code.length) (.int .i64 (i : Int)) = some (.ptr b (0 + i * 3)) := zb7 sl37 hlt
 have fa : zaj C19 54 1 (.ptr b (0 + i * 3)) = some (.ptr b (0 + i * 3 + 1)) := by
  unfold zaj zf4; rw [ty54, zac]; rfl
 have lv : zba (.slice b 0 s.code.length s.code.length) = some (.int .i64 (s.code.length : Int)) := rfl
 rw [l0, zaa, zc7, zaa, znv, zaa, ldk, zaa, l1, zaa, zag, zaa]; simp only [zaa, zc7, znv, ldk, lv, zag, ia, fa]; intro mm _ _; obtain ⟨t', g1, g2, g3⟩ := OwnD.store (C := C19) hlk.own (i := i) (o := 1) (T := 3) (d := x.d) (d' := XIns.d ⟨x.op, s.code.length, x.b⟩) (v := .int .i64 (s.code.length : Int)) (by simp [hi]) ty3 rfl (by exact (by decide : 1 + 1 <= 3)) rfl (fun cs h3 hrd => by
  rw [z6x] at hrd ⊢
  subst hrd; rfl)
 have e3 : 0 + i * 3 + 1 = i * 3 + 1 := by omega
 rw [e3, g1, zaa]; have hmap : (s.code.map XIns.d).set i (XIns.d ⟨x.op, s.code.length, x.b⟩) = (s.code.set i ⟨x.op, s.code.length, x.b⟩).map XIns.d := by rw [List.map_set]
 rw [hmap] at g2; refine hQ t' ⟨h.pl, ?_⟩
 have hos := h.os
 refine Objs.upd (A := [zfp r.b none r.cells, zfx r.m1 (zay 0 s.names), zfx r.m2 (zay 0 (s.consts.map key)), zau C19.base 1 (s.names.map D.str) r.vn, zau C19.base 6 (s.consts.map zcg.d) r.vc, zau C19.base 1 s.ws r.vw, zau C19.base 1 s.ts r.vt]) (B := []) (o := zau C19.base 3 (s.code.map XIns.d) r.vk) hos (fun k k1 _ => g3 k (fun e => k1 ?_)) (fun k hk => .inl hk) ?_ ?_ (htle.off ?_ g3)
 ·subst e; rw [e1]; simp [zau, zjy]
 ·rw [e1]; exact g2.loose (by simp)
 ·rw [e1]; simp [zau, zjy]
 ·exact (hlk.none (zhj.2 rfl)).1
end Go.Proofs
namespace Go.Proofs
open Go Go.Am
variable [zcf]
variable {t : Tr zal}
theorem pv36 {f : zem} {u v : zab} (h1 : RSl t 1 (zd2 f.n.limbs) u) (h2 : RSl t 1 (zd2 f.d.limbs) v) (hf : f.ok) : pvC C19 F 36 [.agg [.bool f.n.neg, u, .bool f.d.neg, v]] t = some (.int .i64 (zh0 f : Nat)) := by
 have hs := zhb hf
 refine zbk.2 (w36 _ _ _ _ ?_)
 unfold zh0 at hs ⊢
 simp (disch := omega) only [t36, wpT, h1.len, h2.len, zaa, zag, zjl, zak]
 simp
mutual
theorem pv37 : ∀ (x : zam) (left : Int) (cs : List zab), x.ok -> -9007199254740992 <= left -> left <= 9007199254740992 -> RD t x.d cs -> pvC C19 F 37 [.agg cs, .int .i64 left] t = some (.int .i64 (zeh x left))
 | .mk op name v args, left, cs, hx, hl1, hl2, h => by
  obtain ⟨a, b, c, rfl, ha, hb, hc⟩ := zhe h
  simp only [zam.op, zam.name, zam.v, zam.args] at ha hb hc ⊢
  have hx' := hx
  unfold zam.ok at hx'; have hf := zhb hx'.2.1
  have hn := hx'.1
  unfold zf9 at hn; refine zbk.2 (w37 _ _ _ _ _ _ _ _ _ _ ?_)
  simp (disch := omega) only [t37, wpT, q36, pv36 ha hb hx'.2.1, zaa, zag, zo2, zfa, if_true, zf5, zak, Int.tdiv_eq_ediv_of_nonneg]
  unfold zeh; exact zze0 args args left _ op name v _ _ c 0 hc rfl hx'.2.2.2 hx'.2.2.1 (by omega) hl1 hl2 (by omega)
theorem zze0 : ∀ (l args : List zam) (left n : Int) (op : Nat) (name : List Nat) (v : zcg) (a b c : zab) (i : Nat), RSl t 9 (args.map zam.d) c -> args.drop i = l -> zam.oks l -> args.length < zf9 -> 0 <= n -> -9007199254740992 <= left -> left <= 9007199254740992 -> n <= 27021597764222976 →
  jp 37 2 [.int .i64 left, .int .i64 n, .int .i64 i, .int .u8 op, .str name, .int .u8 v.kind, .bool v.f.n.neg, a, .bool v.f.d.neg, b, .int .i64 v.i, c] t (fun v' t' => v' = .int .i64 (zgp l left n) /\ t' = t)
 | [], args, left, n, op, name, v, a, b, c, i, hc, hd, hok, hsz, hn, hl1, hl2, hn2 => by
  have := zmx hd
  refine j37_2 _ _ _ _ _ _ _ _ _ _ _ _ ?_
  simp only [zzgl, wpT, hc.len, zaa, zag, yag, zat]; rw [if_neg (by omega)]
  unfold zgp; simp
 | x :: l, args, left, n, op, name, v, a, b, c, i, hc, hd, hok, hsz, hn, hl1, hl2, hn2 => by
  obtain ⟨h1, h2, h3⟩ := zk3 hd
  unfold zf9 at hsz; have hok' := hok
  unfold zam.oks at hok'; refine j37_2 _ _ _ _ _ _ _ _ _ _ _ _ ?_
  obtain ⟨pb, po, cs, g1, g2, g3, g4, g5⟩ := zjo.at sl48 (by simp) hc (i := i) (d := x.d) (by simp [h1])
  simp only [zzgl, wpT, hc.len, zaa, zag, yag, zat, zda, g1, g2, zxx]; rw [if_pos (by omega)]
  unfold zgp; split
  ·rename_i hle
   obtain ⟨a1, b1, c1, rfl, ha1, hb1, hc1⟩ := zhe g5
   have hs := zja x (left - n) hok'.1
   rw [zkm g5 x.zs]; simp only [zaa, cellsOf, zix, zil, zde, ze6]; simp (disch := omega) only [q37, yaa, yab, zak]
   rw [pv37 x (left - n) _ hok'.1 (by omega) (by omega) g5]
   simp (disch := omega) only [zaa, zag, zak]
   have := zze0 l args left (n + zeh x (left - n)) op name v a b c (i + 1) hc h2 hok'.2 hsz (by omega) hl1 hl2 (by omega)
   rw [show ((i : Int) + 1) = ((i + 1 : Nat) : Int) by omega]
   exact this
  ·simp
end
end Go.Proofs
namespace Go.Proofs
open Go Go.Am
variable [zcf]
variable {t : Tr zal}
def zo1 : List zxp -> Int -> Int
 | [], n => n
 | d :: l, n => if n <= 2000 then zo1 l (n + (d.name.length : Int) / 30) else n
def zhz : List zhs -> Int -> Int
 | [], n => n
 | r :: l, n => if n <= 2000 then zhz l (n + (zh0 r.f : Nat)) else n
def zgz : List zb9 -> Int -> Int
 | [], n => n
 | x :: l, n => if n <= 2000 then zgz l (zhz x.rows (n + (x.name.length : Int) / 30)) else n
def zgo (c : za4) (n : Int) : Int := n + ((c.name.length : Int) / 30 + (c.label.length : Int) / 30 + zeh c.when_ (2000 - n))
def zdu : List za4 -> Int -> Int
 | [], n => n
 | c :: l, n => if n <= 2000 then (if zgo c n <= 2000 then zdu l (zgo c n + zeh c.then_ (2000 - zgo c n)) else zdu l (zgo c n)) else n
def sizeP (p : zi6) : Int := zdu p.clauses (zgz p.tables (zo1 p.defs (1 + (p.name.length : Int) / 30 + p.defs.length + p.tables.length + p.clauses.length)))
theorem zzdi (n : Nat) : Int.tdiv (n : Int) 30 = (n : Int) / 30 := Int.tdiv_eq_ediv_of_nonneg (by omega)
section
variable {p : zi6} {a b c : zab}
theorem zvo {l : List za4} (hc : RSl t 24 (l.map za4.d) c) (hn : l.length < 1125899906842624) (hf : ∀ x ∈ l, x.fit) : ∀ (m i : Nat) (n : Int), i + m = l.length -> 0 <= n -> n < 1152921504606846976 -> jp 13 14 [.int .i64 2000, .int .i64 n, .int .i64 (i : Int), .str p.name, a, b, c] t (fun v s => v = .int .i64 (zdu (l.drop i) n) /\ s = t) := by
 intro m; induction m with
 | zero =>
  intro i n hi h0 h1; refine zzfm _ _ _ _ _ _ _ ?_
  simp only [z6e, wpT, hc.len, zaa, zag, yag, zat]; rw [if_neg (by omega), yau (by omega)]
  (first | exact ⟨rfl, rfl⟩ | exact ⟨rfl, trivial⟩ | trivial)
 | succ m ih =>
  intro i n hi h0 h1; have hlt : i < l.length := by omega
  obtain ⟨q, off, u1, u2, u3, w1, w2, w3, g1, g2, g3, g4, g5, g6⟩ := zq0 hc (yae hlt)
  have hfit := hf _ (List.getElem_mem hlt)
  obtain ⟨f1, f2, _, _, _, f6, f7⟩ := hfit
  unfold zf9 at f1 f2; have ok1 := zam.fit_ok f6
  have ok2 := zam.fit_ok f7
  refine zzfm _ _ _ _ _ _ _ ?_
  simp only [z6e, wpT, hc.len, zaa, zag, yag, zat, zda]; rw [if_pos (by omega), yam hlt]
  unfold zdu; by_cases h2 : n <= 2000
  ·rw [if_pos h2, if_pos h2]
   unfold zte at g3; rw [g1, zaa, g2, zaa, g3, zaa]; unfold zfu at g6; simp only [zfu, cellsOf, zix, zil, zde, ze6, yaa, yab]; have s1 := zja l[i].when_ (2000 - n) ok1
   have e1 := pv37 l[i].when_ (2000 - n) _ ok1 (by omega) (by omega) g4
   unfold zex at e1; have ew : zgo l[i] n = n + ((l[i].name.length : Int) / 30 + (l[i].label.length : Int) / 30 + zeh l[i].when_ (2000 - n)) := rfl
   have eN : zah .i64 (n + zah .i64 (zah .i64 (zah .i64 ((l[i].name.length : Int) / 30) + zah .i64 ((l[i].label.length : Int) / 30)) + zeh l[i].when_ (2000 - n))) = zgo l[i] n := by
    rw [zak (n := (l[i].name.length : Int) / 30) (by omega) (by omega), zak (n := (l[i].label.length : Int) / 30) (by omega) (by omega), zak (n := (l[i].name.length : Int) / 30 + (l[i].label.length : Int) / 30) (by omega) (by omega),
     zak (n := (l[i].name.length : Int) / 30 + (l[i].label.length : Int) / 30 + zeh l[i].when_ (2000 - n)) (by omega) (by omega), zak (by omega) (by omega)]
    rfl
   have bw : 0 <= zgo l[i] n /\ zgo l[i] n < 1152921504606846976 := by rw [ew]; omega
   refine zbf g6 ?_
   rw [zak (n := 2000 - n) (by omega) (by omega), q37, e1, zaa, zag, zaa]
   simp only [zo2, zfa, if_true, zf5, zzdi, eN, zda]; have ei : zah .i64 ((i : Int) + 1) = ((i + 1 : Nat) : Int) := by rw [zak (by omega) (by omega)]; omega
   generalize zgo l[i] n = k at *
   by_cases h3 : k <= 2000
   ·rw [if_pos h3, if_pos h3]
    have s2 := zja l[i].then_ (2000 - k) ok2
    have e2 := pv37 l[i].then_ (2000 - k) _ ok2 (by omega) (by omega) g5
    unfold zex at e2; rw [zak (n := 2000 - k) (by omega) (by omega), q37, e2, zaa, zag, zaa, ei, zak (by omega) (by omega)]
    exact ih (i + 1) _ (by omega) (by omega) (by omega)
   ·rw [if_neg h3, if_neg h3, ei]
    exact ih (i + 1) _ (by omega) bw.1 bw.2
  ·rw [if_neg h2, if_neg h2]
   (first | exact ⟨rfl, rfl⟩ | exact ⟨rfl, trivial⟩ | trivial)
theorem zn9 : ∀ (l : List zhs) (n : Int), (∀ r ∈ l, r.fit) -> 0 <= n -> 0 <= zhz l n /\ zhz l n <= max n 4503599627372496
 | [], n, _, h => by unfold zhz; omega
 | r :: l, n, hf, h => by
  unfold zhz; split
  ·have := zhb (hf r (by simp)).2.2.2.1
   have := zn9 l (n + (zh0 r.f : Nat)) (fun x hx => hf x (by simp [hx])) (by omega)
   omega
  ·omega
theorem zqx {l : List zb9} (hb : RSl t 3 (l.map zb9.d) b) {i : Nat} (hi : i < l.length) : ∃ p o v, zaf C19 23 b (.int .i64 (i : Int)) = some (.ptr p o) /\ zaj C19 82 0 (.ptr p o) = some (.ptr p (o + 0)) /\ zaj C19 82 2 (.ptr p o) = some (.ptr p (o + 2)) /\ zap C19 9 ⟨0, t⟩ (.ptr p (o + 0)) = some (.str l[i].name) /\ zap C19 80 ⟨0, t⟩ (.ptr p (o + 2)) = some v /\ RSl t 7 (l[i].rows.map zhs.d) v := by
 obtain ⟨p, o, cs, g1, g2, g3, _, g5⟩ := zjo.at sl23 (by simp) hb (i := i) (d := l[i].d) (by simp [yae hi])
 obtain ⟨v, rfl, hv⟩ := zo3 g5
 exact ⟨p, o, v, g1, by kernel_rfl, by kernel_rfl, g3.load1 ty9 rfl rfl, g3.load1 ty80 rfl rfl, hv⟩
theorem z6n {l : List zb9} (hb : RSl t 3 (l.map zb9.d) b) (hf : ∀ x ∈ l, x.fit) {i : Nat} (hi : i < l.length) (hil : i < 1125899906842624) {Q : zaw} : ∀ (m j : Nat) (n : Int), j + m = l[i].rows.length -> 0 <= n -> n < 1152921504606846976 →
  jp 13 6 [.int .i64 2000, .int .i64 (zhz (l[i].rows.drop j) n), .int .i64 ((i + 1 : Nat) : Int), .str p.name, a, b, c] t Q -> jp 13 10 [.int .i64 2000, .int .i64 n, .int .i64 (i : Int), .int .i64 (j : Int), .str p.name, a, b, c] t Q := by
 obtain ⟨q, o, v, g1, g2, g3, g4, g5, g6⟩ := zqx hb hi
 have hfit := hf _ (List.getElem_mem hi)
 obtain ⟨f1, f2, f3⟩ := hfit
 unfold zf9 at f1 f2; have ei : zah .i64 ((i : Int) + 1) = ((i + 1 : Nat) : Int) := by rw [zak (by omega) (by omega)]; omega
 intro m; induction m with
 | zero =>
  intro j n hj h0 h1 hQ; rw [yau (by omega)] at hQ
  refine zzfn _ _ _ _ _ _ _ _ ?_
  simp only [z6f, wpT]; rw [g1, zaa, g3, zaa, g5, zaa, g6.len, zaa, yag, zag, zaa]; simp only [zat]; rw [if_neg (by omega), ei]
  exact hQ
 | succ m ih =>
  intro j n hj h0 h1 hQ; have hlt : j < l[i].rows.length := by omega
  rw [yam hlt] at hQ; unfold zhz at hQ; refine zzfn _ _ _ _ _ _ _ _ ?_
  simp only [z6f, wpT]; rw [g1, zaa, g3, zaa, g5, zaa, g6.len, zaa, yag, zag, zaa]; simp only [zat, zda]; rw [if_pos (by omega)]
  by_cases h2 : n <= 2000
  ·rw [if_pos h2] at hQ ⊢
   obtain ⟨q', o', cs, k1, k2, k3, _, k5⟩ := zjo.at sl80 (by simp) g6 (i := j) (d := l[i].rows[j].d) (by simp [yae hlt])
   obtain ⟨x, y, rfl, hx, hy⟩ := z01 k5
   have fa : zaj C19 85 3 (.ptr q' o') = some (.ptr q' (o' + 3)) := by kernel_rfl
   have ld : zap C19 45 ⟨0, t⟩ (.ptr q' (o' + 3)) = some (.agg [.bool l[i].rows[j].f.n.neg, x, .bool l[i].rows[j].f.d.neg, y]) := k3.load (j := 3) ty45 rfl rfl (by exact (by decide : 3 + 4 <= 7))
   have fr : (l[i].rows[j]).fit := f3 _ (List.getElem_mem hlt)
   have hz : zrc [(.bool false), .nilslice, (.bool false), .nilslice] (.agg [.bool l[i].rows[j].f.n.neg, x, .bool l[i].rows[j].f.d.neg, y]) = some (cellsOf [.bool l[i].rows[j].f.n.neg, x, .bool l[i].rows[j].f.d.neg, y]) := zhq (by
    show (true && (zj1 .nilslice x && (true && (zj1 .nilslice y && true)))) = true
    rw [zbi hx, zbi hy]; rfl)
   have e1 := pv36 hx hy fr.2.2.2.1
   have hs := zhb fr.2.2.2.1
   have ej : zah .i64 ((j : Int) + 1) = ((j + 1 : Nat) : Int) := by rw [zak (by omega) (by omega)]; omega
   simp only [zaa, g3, g5]; rw [k1, zaa, fa, zaa, ld, zaa, hz, zaa]; simp only [cellsOf, zde, ze6, yaa, yab]; rw [q36, e1, zaa, zag, zaa, ej, zak (by omega) (by omega)]
   exact ih (j + 1) _ (by omega) (by omega) (by omega) hQ
  ·rw [if_neg h2] at hQ ⊢
   rw [ei]; exact hQ
theorem zyg (hb : RSl t 3 (p.tables.map zb9.d) b) (hc : RSl t 24 (p.clauses.map za4.d) c) (hp : p.fit) : ∀ (m i : Nat) (n : Int), i + m = p.tables.length -> 0 <= n -> n < 1152921504606846976 -> jp 13 6 [.int .i64 2000, .int .i64 n, .int .i64 (i : Int), .str p.name, a, b, c] t (fun v s => v = .int .i64 (zdu p.clauses (zgz (p.tables.drop i) n)) /\ s = t) := by
 have hnt := hp.ntables
 have hnc := hp.nclauses
 unfold zf9 at hnt hnc; have fin : ∀ n : Int, 0 <= n -> n < 1152921504606846976 -> jp 13 14 [.int .i64 2000, .int .i64 n, .int .i64 0, .str p.name, a, b, c] t (fun v s => v = .int .i64 (zdu p.clauses n) /\ s = t) := by
  intro n h0 h1; have := zvo (p := p) (a := a) (b := b) hc hnc hp.clauses p.clauses.length 0 n (by omega) h0 h1
  rw [List.drop_zero] at this; exact this
 intro m; induction m with
 | zero =>
  intro i n hi h0 h1; refine j13_6 _ _ _ _ _ _ _ ?_
  simp only [zzgp, wpT, hb.len, zaa, zag, yag, zat]; rw [if_neg (by omega), yau (by omega)]
  exact fin n h0 h1
 | succ m ih =>
  intro i n hi h0 h1; have hlt : i < p.tables.length := by omega
  obtain ⟨q, o, v, g1, g2, g3, g4, g5, g6⟩ := zqx hb hlt
  have hfit := hp.tables _ (List.getElem_mem hlt)
  obtain ⟨f1, f2, f3⟩ := hfit
  unfold zf9 at f1; refine j13_6 _ _ _ _ _ _ _ ?_
  simp only [zzgp, wpT, hb.len, zaa, zag, yag, zat, zda]; rw [if_pos (by omega), yam hlt]
  unfold zgz; by_cases h2 : n <= 2000
  ·rw [if_pos h2, if_pos h2, g1, zaa, g2, zaa, g4, zaa, zca, zaa, zf5, zzdi, zak (n := (p.tables[i].name.length : Int) / 30) (by omega) (by omega), zak (by omega) (by omega)]
   have hr := zn9 p.tables[i].rows (n + (p.tables[i].name.length : Int) / 30) f3 (by omega)
   refine z6n (p := p) (a := a) (c := c) hb hp.tables hlt (by omega) p.tables[i].rows.length 0 _ (by omega) (by omega) (by omega) ?_
   rw [List.drop_zero]; exact ih (i + 1) _ (by omega) (by omega) (by omega)
  ·rw [if_neg h2, if_neg h2]
   exact fin n h0 h1
theorem z6o (ha : RSl t 3 (p.defs.map zxp.d) a) (hb : RSl t 3 (p.tables.map zb9.d) b) (hc : RSl t 24 (p.clauses.map za4.d) c) (hp : p.fit) : ∀ (m i : Nat) (n : Int), i + m = p.defs.length -> 0 <= n -> n < 1152921504606846976 -> jp 13 2 [.int .i64 2000, .int .i64 n, .int .i64 (i : Int), .str p.name, a, b, c] t (fun v s => v = .int .i64 (zdu p.clauses (zgz p.tables (zo1 (p.defs.drop i) n))) /\ s = t) := by
 have hnd := hp.ndefs
 unfold zf9 at hnd; have fin : ∀ n : Int, 0 <= n -> n < 1152921504606846976 -> jp 13 6 [.int .i64 2000, .int .i64 n, .int .i64 0, .str p.name, a, b, c] t (fun v s => v = .int .i64 (zdu p.clauses (zgz p.tables n)) /\ s = t) := by
  intro n h0 h1; have := zyg (a := a) hb hc hp p.tables.length 0 n (by omega) h0 h1
  rw [List.drop_zero] at this; exact this
 intro m; induction m with
 | zero =>
  intro i n hi h0 h1; refine j13_2 _ _ _ _ _ _ _ ?_
  simp only [zzgq, wpT, ha.len, zaa, zag, yag, zat]; rw [if_neg (by omega), yau (by omega)]
  exact fin n h0 h1
 | succ m ih =>
  intro i n hi h0 h1; have hlt : i < p.defs.length := by omega
  obtain ⟨q, o, cs, g1, g2, g3, _, g5⟩ := zjo.at sl22 (by simp) ha (i := i) (d := p.defs[i].d) (by simp [yae hlt])
  have g5 := rd_def g5
  subst g5; have fa : zaj C19 79 0 (.ptr q o) = some (.ptr q (o + 0)) := by kernel_rfl
  have ld : zap C19 9 ⟨0, t⟩ (.ptr q (o + 0)) = some (.str p.defs[i].name) := g3.load1 ty9 rfl rfl
  have hfit := hp.defs _ (List.getElem_mem hlt)
  have f1 := hfit.1
  unfold zf9 at f1; have ei : zah .i64 ((i : Int) + 1) = ((i + 1 : Nat) : Int) := by rw [zak (by omega) (by omega)]; omega
  refine j13_2 _ _ _ _ _ _ _ ?_
  simp only [zzgq, wpT, ha.len, zaa, zag, yag, zat, zda]; rw [if_pos (by omega), yam hlt]
  unfold zo1; by_cases h2 : n <= 2000
  ·rw [if_pos h2, if_pos h2, g1, zaa, fa, zaa, ld, zaa, zca, zaa, zf5, zzdi, ei, zak (n := (p.defs[i].name.length : Int) / 30) (by omega) (by omega), zak (by omega) (by omega)]
   exact ih (i + 1) _ (by omega) (by omega) (by omega)
  ·rw [if_neg h2, if_neg h2]
   exact fin n h0 h1
theorem zzbp {cs : List zab} (hp : p.fit) (h : RD t p.d cs) : pvC C19 F 13 [.agg cs, .int .i64 2000] t = some (.int .i64 (sizeP p)) := by
 obtain ⟨a, b, c, rfl, ha, hb, hc⟩ := zp6 h
 have p1 := hp.name
 have p2 := hp.ndefs
 have p3 := hp.ntables
 have p4 := hp.nclauses
 unfold zf9 at p1 p2 p3 p4; refine zbk.2 (w13 _ _ _ _ _ ?_)
 simp only [t13, wpT, ha.len, hb.len, hc.len, zaa, zag, yag, zf5, zzdi]; rw [zak (n := (p.name.length : Int) / 30) (by omega) (by omega), zak (n := 1 + (p.name.length : Int) / 30) (by omega) (by omega), zak (n := 1 + (p.name.length : Int) / 30 + (p.defs.length : Int)) (by omega) (by omega), zak (n := 1 + (p.name.length : Int) / 30 + (p.defs.length : Int) + (p.tables.length : Int)) (by omega) (by omega), zak (by omega) (by omega)]
 have := z6o ha hb hc hp p.defs.length 0 (1 + (p.name.length : Int) / 30 + p.defs.length + p.tables.length + p.clauses.length) (by omega) (by omega) (by omega)
 rw [List.drop_zero] at this; exact this
end
end Go.Proofs
namespace Go.Proofs
open Go Go.Am
variable [zcf]
variable {t : Tr zal}
def zop : List (List Nat) := [[], [], [], [52], [52], [], [50, 32, 50, 50], [50, 50, 32, 51, 51, 32, 53, 53, 32, 54, 54, 32, 52, 53, 32, 52, 54], [50, 50, 32, 51, 51, 32, 53, 53, 32, 54, 54, 32, 52, 52, 32, 52, 53, 32, 52, 54], [50, 50, 32, 51, 50, 32, 50, 51], [50, 50, 32, 51, 51, 32, 51, 50], [50, 50, 32, 51, 51, 32, 52, 52, 32, 53, 53, 32, 54, 54], [50, 50, 32, 51, 51, 32, 52, 52, 32, 53, 53, 32, 54, 54], [50, 50, 32, 51, 51, 32, 52, 52, 32, 53, 53, 32, 54, 54], [49, 49, 32, 50, 50, 32, 51, 51, 32, 52, 52, 32, 53, 53, 32, 54, 54], [], [], [49], [], [50, 50, 32, 51, 51], [52, 52], [52, 52], [52, 52, 54], [52, 52], [50], [50, 32, 51, 32, 53, 32, 54], [52]]
def z2i (t : Tr zal) : Prop := At t 0 0 (zop.map zab.str)
theorem z2i.mono {t' : Tr zal} (h : z2i t) (k : TLe t t') : z2i t' := At.mono k h
def fstW (s : List Nat) : List Nat := match zzdn [32] s with | some p => p.1 | none => s
def argT (s : List Nat) : Int × Int := if s = [] then (1, 0) else ((fstW s).length, (fstW s).length)
def zpu (op : Nat) : Bool := op == 1 || op == 2 || op == 5 || op == 6 || op == 15 || op == 16 || op == 18
theorem zxg : ∀ s ∈ zop, s.length < 100 := by decide
theorem zzag : ∀ k, k < 27 -> zpu k = false -> ∀ s, zop[k]? = some s -> argT s = zra k := by
 have h : ((List.range 27).all fun k => zpu k || (match zop[k]? with | some s => decide (argT s = zra k) | none => true)) = true := by kernel_rfl
 intro k hk hs s he; have := ybc.1 h k (List.mem_range.2 hk)
 rw [hs, he, Bool.false_or] at this; exact of_decide_eq_true this
theorem cut_pv {s : List Nat} (hs : s.length < 100) : ∃ a b, pvC C19 F 238 [.str s, .str [32]] t = some (.tup [.str (fstW s), .str a, .bool b]) := by
 have hg : C19.prims.get 238 = some pCut := by kernel_rfl
 have hb : Nat.blt (zbw s) 4294967281 = true := by rw [zbb]; exact zdl.2 (by omega)
 unfold fstW
 cases hc : zzdn [32] s with
 | none => exact ⟨[], false, zt1 hg fun H => by unfold pCut; simp only []; rw [hb, hc]; rfl⟩
 | some p => exact ⟨p.2, true, zt1 hg fun H => by unfold pCut; simp only []; rw [hb, hc]; rfl⟩
theorem zzir {op : Nat} (hop : op < 256) (hg : z2i t) : pvC C19 F 181 [.int .u8 (op : Int)] t = some (.tup [.int .i64 (zra op).1, .int .i64 (zra op).2]) := by
 have w : zah .i64 (op : Int) = (op : Int) := zak (by omega) (by omega)
 have tab : 27 <= op \/ zpu op = false -> wp 181 (.ite (iLe 27 (zah .i64 (op : Int)))
 (.ret (.tup [(.int .i64 1), (.int .i64 0)]))
 (.opt (zaf C19 273 (.ptr 0 0) (.int .u8 (op : Int))) fun a13 => .light (fun m => zap C19 9 ⟨0, m⟩ a13) fun a14 => .asS a14 fun s15 => .ite (zjx s15 [])
 (.ret (.tup [(.int .i64 1), (.int .i64 0)]))
 (.opt (zaf C19 273 (.ptr 0 0) (.int .u8 (op : Int))) fun a16 => .light (fun m => zap C19 9 ⟨0, m⟩ a16) fun a17 => .asS a17 fun s18 => .call 238 [(.str s18), (.str [32])] fun a19 =>
 .opt (zas 0 a19) fun a20 => .asS a20 fun s21 => .opt (zas 1 a19) fun a22 => .asS a22 fun s23 => .opt (zas 2 a19) fun a24 => .asB a24 fun b25 => .ret (.tup [(.int .i64 (Int.ofNat (zbw s21))), (.int .i64 (Int.ofNat (zbw s21)))])))) t (fun v' t' => v' = .tup [.int .i64 (zra op).1, .int .i64 (zra op).2] /\ t' = t) := by
  intro h; simp only [wpT, w, zda]; by_cases h27 : 27 <= op
  ·rw [if_pos (by omega)]
   have e : zra op = (1, 0) := by unfold zra; repeat rw [if_neg (by omega)]
   rw [e]; (first | exact ⟨rfl, rfl⟩ | exact ⟨rfl, trivial⟩ | trivial)
  ·rw [if_neg (by omega)]
   have hsp : zpu op = false := h.resolve_left h27
   obtain ⟨s, hs⟩ : ∃ s, zop[op]? = some s := ⟨_, yae (l := zop) (i := op) (by show op < 27; omega)⟩
   have hN := zzag op (by omega) hsp s hs
   have hsm := zxg s (List.mem_of_getElem? hs)
   have ia : zaf C19 273 (.ptr 0 0) (.int .u8 (op : Int)) = some (.ptr 0 (0 + op * 1)) := by
    unfold zaf; have e1 : (zab.int .u8 (op : Int)).asNat = some op := rfl
    rw [ty273, zac, e1, zac]; simp only [zab.asSlice, zab.asPtr, zac, zct.asArr]; rw [ty9, zac, zdl.2 (by omega)]
    rfl
   have ld : zap C19 9 ⟨0, t⟩ (.ptr 0 (0 + op * 1)) = some (.str s) := by
    have := At.load1 (C := C19) (j := op) (a := .str s) hg ty9 rfl (by rw [yav, hs]; rfl)
    rw [show 0 + op * 1 = 0 + op by omega]; exact this
   obtain ⟨a, b, hc⟩ := cut_pv (t := t) hsm
   rw [ia, zaa, ld, zaa, zca, zaa]; unfold argT at hN; by_cases h0 : s = []
   ·rw [if_pos ((zfi _ _).2 h0)]
    rw [if_pos h0] at hN; rw [<- hN]; (first | exact ⟨rfl, rfl⟩ | exact ⟨rfl, trivial⟩ | trivial)
   ·rw [if_neg (fun e => h0 ((zfi _ _).1 e))]
    rw [if_neg h0] at hN; simp only [zaa, ld, zca]; rw [q238, hc]; simp only [zaa, zas, zab.asTup, zac, zbh, yaa, yab, zca, zax, zf5]; rw [<- hN]; (first | exact ⟨rfl, rfl⟩ | exact ⟨rfl, trivial⟩ | trivial)
 refine zbk.2 (w181 _ ?_)
 have pos : ∀ {k : Nat} {x y : T} {Q : zaw}, op = k -> wp 181 x t Q -> wp 181 (.ite (iEq (op : Int) (k : Int)) x y) t Q := fun h hx => zbf (zc3.2 (by omega)) hx
 have neg : ∀ {k : Nat} {x y : T} {Q : zaw}, op ≠ k -> wp 181 y t Q -> wp 181 (.ite (iEq (op : Int) (k : Int)) x y) t Q := fun h hy => zb5 (fun e => absurd (zc3.1 e) (by omega)) hy
 unfold t181; by_cases h1 : op = 1
 ·refine pos h1 (pos h1 ?_); subst h1; exact ⟨rfl, rfl⟩
 ·refine neg h1 ?_
  by_cases h2 : op = 2
  ·refine pos h2 ?_; subst h2; exact ⟨rfl, rfl⟩
  ·refine neg h2 ?_
   by_cases h5 : op = 5
   ·refine pos h5 ?_; subst h5; exact ⟨rfl, rfl⟩
   ·refine neg h5 ?_
    by_cases h6 : op = 6
    ·refine pos h6 ?_; subst h6; exact ⟨rfl, rfl⟩
    ·refine neg h6 ?_
     by_cases h15 : op = 15
     ·refine pos h15 (pos h15 ?_); subst h15; exact ⟨rfl, rfl⟩
     ·refine neg h15 ?_
      by_cases h16 : op = 16
      ·refine pos h16 ?_; subst h16; exact ⟨rfl, rfl⟩
      ·refine neg h16 ?_
       by_cases h18 : op = 18
       ·refine pos h18 ?_; subst h18; exact ⟨rfl, rfl⟩
       ·refine neg h18 ?_
        exact tab (.inr (by simp [zpu, h1, h2, h5, h6, h15, h16, h18]))
theorem z9d {x : zam} {a b c : zab} (hx : x.fit) (hg : z2i t) (ha : RSl t 1 (zd2 x.v.f.n.limbs) a) (hb : RSl t 1 (zd2 x.v.f.d.limbs) b) (hc : RSl t 9 (x.args.map zam.d) c) : pvC C19 F 167 [.agg (zex x a b c)] t = some (.bool (zc5 zan x.op x.v x.args.length)) := by
 obtain ⟨op, name, v, args⟩ := x
 simp only [zam.op, zam.name, zam.v, zam.args] at ha hb hc ⊢
 unfold zam.fit at hx; obtain ⟨h1, h2, _, h3, h4, _⟩ := hx
 unfold zf9 at h4; have c1 := zu6 ha hb h3.2.1
 have c2 := zzir (t := t) h1 hg
 refine zbk.2 (w167 _ _ _ _ _ _ _ _ _ ?_)
 simp only [t167, wpT, zam.op, zam.name, zam.v, zam.args, q25, q181, c1, c2, zaa, zax, zas, zab.asTup, zac, zbh, yaa, yab, zag, hc.len, yag, zc3, zo5, z81, decide_eq_true_eq]
 unfold zc5; by_cases h0 : op = 1
 ·rw [if_pos (by omega)]
  cases hv : zan v with
  | false => simp [h0]
  | true =>
   simp only [Bool.true_eq_false, if_false]; by_cases h5 : (zra op).1 <= (args.length : Int)
   ·rw [if_pos h5]; simp [h5]
   ·rw [if_neg h5]; simp [h5]
 ·rw [if_neg (by omega)]
  by_cases h5 : (zra op).1 <= (args.length : Int)
  ·rw [if_pos h5]; simp [h5, h0]
  ·rw [if_neg h5]; simp [h5]
end Go.Proofs
namespace Go.Am
open Go Go.RowKit
section
variable {t tf : Tr zal} {C : Ctx}
theorem zoq {T el sz : Nat} (hT : zxq C T el sz) {l : List D} {x : zab} (hx : RSl tf sz l x) (ht : TLe tf t) (hl : l.length < 1000000) {n : Nat} (hn : t.get n = none) :
  ∃ v k t' tf', zbn C T T .nilslice x ⟨n, t⟩ = some (v, ⟨k, t'⟩) /\ RSl tf' sz l v /\ TLe tf tf' /\ TLe tf' t' /\ TLe t t' /\ Off n t t' /\ Off n tf tf' := by
 obtain ⟨⟨y, hy1, hy2, hy3⟩, ⟨z, hz1, hz2, hz3, hz4, hz5⟩⟩ := hT
 obtain ⟨cl, he, hd⟩ := hx
 have hcl := hd.length
 obtain ⟨hf, hlen⟩ := (he.mono ht).first (n := n)
 have hall := he.len
 have base : zbn C T T .nilslice x ⟨n, t⟩ = zfg ⟨n, t⟩ z cl.length cl.flatten := by
  unfold zbn zge; rw [hy1, zac, zac, hy3]; simp only [Bool.not_false, zaz]; rw [hy2, zac, hz1, zac, hlen, zac, hz2, hf, zac]; rfl
 have hfl : zbw cl.flatten = cl.length * sz := by rw [zbb]; exact zf0 hall
 have ok : ziy z 0 0 cl.length cl.flatten = true := by
  unfold ziy; have h1 : Nat.blt (0 + cl.length + 0) 1000000000 = true := zdl.2 (by omega)
  have h2 : Nat.blt ((0 + cl.length + 0) * z.bytes) 1000000000 = true := zdl.2 (by
   have := Nat.mul_le_mul (show 0 + cl.length + 0 <= 1000000 by omega) hz4
   omega)
  have h3 : Nat.blt z.bytes 1000000000 = true := zdl.2 (by omega)
  have h4 : (!Nat.beq z.size 0) = true := by
   cases hq : Nat.beq z.size 0 with
   | true => have := zc0.1 hq; omega
   | false => rfl
  have h5 : Nat.beq (zbw cl.flatten) (cl.length * z.size) = true := by rw [hfl, hz2]; exact zc0.2 rfl
  have h6 : Nat.beq (zbw z.zero) z.size = true := by rw [hz3, hz2]; exact zc0.2 rfl
  rw [h1, h2, h3, h4, h5, h6]; rfl
 have hfn : tf.get n = none := by
  cases hq : tf.get n with
  | none => rfl
  | some u => rw [ht _ _ hq] at hn; cases hn
 by_cases h0 : cl.length = 0
 ·have : cl = [] := ybd.1 h0
  subst this; refine ⟨.nilslice, n, t, tf, ?_, ⟨[], .inl ⟨rfl, rfl⟩, hd⟩, TLe.refl _, ht, TLe.refl _, Off.refl _ _, Off.refl _ _⟩
  rw [base]; rfl
 ·have hb : Nat.beq cl.length 0 = false := by
   cases hq : Nat.beq cl.length 0 with
   | true => exact absurd (zc0.1 hq) h0
   | false => rfl
  refine ⟨.slice n 0 cl.length cl.length, n + 1, t.set n (.cells (Tr.ofList cl.flatten) (zbw cl.flatten) (some z.size)), tf.set n (.cells (Tr.ofList cl.flatten) (zbw cl.flatten) (some z.size)), ?_, ⟨cl, zmw hall (by rw [Tr.get_set, if_pos rfl]) (.inr (by rw [hz2])), RDs.mono (zdb hfn _).1 _ _ hd⟩, (zdb hfn _).1, fun k u hk => ?_, (zdb hn _).1, (zdb hn _).2, (zdb hfn _).2⟩
  ·rw [base]
   unfold zfg; rw [hb, cond_false, ok]; rfl
  ·rw [Tr.get_set] at hk ⊢
   split at hk
   ·rename_i e; rw [if_pos e]; exact hk
   ·rename_i e; rw [if_neg e]; exact ht _ _ hk
theorem zz1 {T el b k m cap n : Nat} {cs : List zab} {lo : Option Nat} {x : zab} {cm : List (List zab)} (hT : zxq C T el 1) (hc : Cel t b lo cs) (hb : C.base <= b) (hx : zhn t 1 x cm) (hm : cm.length = m) (h0 : 0 < m) (hk : k + m <= cap) (hcap : cap <= cs.length) (hone : ∀ a ∈ cm.flatten, zab.one a = true) :
  ∃ t', zbn C T T (.slice b 0 k cap) x ⟨n, t⟩ = some (.slice b 0 (k + m) cap, ⟨n, t'⟩) /\ Cel t' b lo (zic cs k cm.flatten) /\ Off b t t' := by
 obtain ⟨⟨y, hy1, hy2, hy3⟩, ⟨z, hz1, hz2, hz3, hz4, hz5⟩⟩ := hT
 obtain ⟨hf, hlen⟩ := hx.first (n := n)
 have hfl := zf0 hx.len
 rw [Nat.mul_one, hm] at hfl; obtain ⟨c, h1, h2⟩ := hc
 have hne : cm.flatten ≠ [] := by intro e; rw [e] at hfl; simp at hfl; omega
 refine ⟨t.set b (.cells (c.setMany cm.flatten k) cs.length lo), ?_, ⟨c.setMany cm.flatten k, by rw [Tr.get_set, if_pos rfl, zmi (by omega)], fun j a hj => ?_⟩, fun d hd => by rw [Tr.get_set, if_neg hd]⟩
 ·unfold zbn zge
  rw [hy1, zac, zac, hy3]; simp only [Bool.not_false, zaz]; rw [hy2, zac, hz1, zac, hlen, zac, hz2, hf, zac]; simp only [zab.asSlice, hm]; rw [zj2.2 hk, cond_true]
  unfold zfz
  cases hq : cm.flatten with
  | nil => exact absurd hq hne
  | cons a r =>
   simp only [hz2, Nat.mul_one, yax]; rw [<- hq]; unfold zhx za1; have e2 : (!Nat.blt b C.base) = true := by
    cases hq : Nat.blt b C.base with
    | true => have := zdl.1 hq; omega
    | false => rfl
   rw [e2, zaz, h1, zac]; simp only [zal.asCells, zac]; have e3 : Nat.ble (k + zbw cm.flatten) cs.length = true := by rw [zbb]; exact zj2.2 (by omega)
   have e4 : zeb zab.one cm.flatten = true := by rw [zcb]; exact ybc.2 hone
   rw [e3, e4]; rfl
 ·rw [zka (by omega)] at hj
  rw [Tr.get_setMany]; split
  ·rename_i e; rw [if_pos e] at hj; exact hj
  ·rename_i e; rw [if_neg e] at hj; exact h2 j a hj
def zgi (l : List Nat) : List zab := l.map fun (n : Nat) => zab.int .u8 (n : Int)
theorem z35 {S Dt b k cap el : Nat} {cs : List zab} {lo : Option Nat} {l : List Nat} {yS yD yE : ATy} (hS : C.tys.get S = some yS) (hD : C.tys.get Dt = some yD) (h1 : yD.desc.asInt = none) (h2 : yD.desc.isString = true) (h3 : yS.desc.asSlice = some el) (h4 : C.tys.get el = some yE) (h5 : yE.desc.asInt = some .u8)
  (hc : Cel t b lo cs) (hk : l.length = k) (hl : ∀ (j : Nat) x, l[j]? = some x -> cs[j]? = some (.int .u8 (x : Int))) (hlt : za5 256 l) : zl6 C S Dt ⟨0, t⟩ (.slice b 0 k cap) = some (.str l) := by
 obtain ⟨c, g1, g2⟩ := hc
 unfold zl6 znx; rw [hS, zac, hD, zac, h1]; simp only []; rw [h2, zaz]; have e1 : Nat.beq (zab.slice b 0 k cap).tag 2 = false := rfl
 rw [e1, cond_false, h3, zac, h4, zac, h5, zac, ze3.2 rfl, zaz]; unfold zi2; simp only [zab.asSlice]; unfold za1; rw [g1, zac]; simp only [zal.asCells, zac]
 have hm : ∀ (l : List Nat) (off : Nat), (∀ (j : Nat) x, l[j]? = some x -> c.get (off + j) = some (.int .u8 (x : Int))) -> c.many l.length off = some (zgi l) := by
  intro l; induction l with
  | nil => intro off _; rfl
  | cons x l ih =>
   intro off h; rw [yao, Tr.many_succ]; have := h 0 x rfl
   rw [Nat.add_zero] at this; rw [this, zac, ih (off + 1) (fun j y hj => by rw [show off + 1 + j = off + (j + 1) by omega]; exact h (j + 1) y (by simpa using hj)), zac]
   rfl
 subst hk; rw [hm l 0 (fun j x hj => by rw [yax]; exact g2 _ _ (hl j x hj)), zac]
 have hb : ∀ (l : List Nat), za5 256 l -> zga zkk (zgi l) = some l := by
  intro l; induction l with
  | nil => intro _; rfl
  | cons x l ih =>
   intro h; have e : zkk (.int .u8 (x : Int)) = some x := by
    unfold zkk; have e1 : zkc (x : Int) = some x := rfl
    simp only [zab.asIntK, zac]; rw [ze3.2 rfl, zaz, e1, zac, zdl.2 (h x (by simp))]; rfl
   show zga zkk (.int .u8 (x : Int) :: zgi l) = _
   rw [zdi, e, zac, ih fun y hy => h y (by simp [hy]), zac]
 rw [hb l hlt, zac]
theorem z7u {T el cap : Nat} {y z : ATy} {k : IntKind} (hT : C.tys.get T = some y) (hel : y.desc.asSlice = some el) (hz : C.tys.get el = some z) (hzero : z.zero = [.int k 0]) (hs : z.size = 1) (hby : z.bytes <= 8) (hn : cap < 1000000) {b : Nat} (hb : t.get b = none) :
  ∃ t', zch C T (.int .i64 0) (.int .i64 (cap : Int)) ⟨b, t⟩ = some (.slice b 0 0 cap, ⟨b + 1, t'⟩) /\ Cel t' b none (List.replicate cap (.int k 0)) /\ TLe t t' /\ Off b t t' := by
 have hrep : ∀ n, zsj [zab.int k 0] n = List.replicate n (.int k 0) := by
  intro n; induction n with
  | zero => rfl
  | succ n ih => unfold zsj; rw [ih, zcl, List.replicate_succ]; rfl
 obtain ⟨t', h1, h2, h3, h4⟩ := zqh hb (List.replicate cap (.int k 0)) none
 refine ⟨t', ?_, h2, h3, h4⟩
 unfold zch; rw [hT, zac, hel, zac, hz, zac]; have e1 : (zab.int .i64 (cap : Int)).asNat = some cap := rfl
 have e0 : (zab.int .i64 0).asNat = some 0 := rfl
 rw [e1, e0, zac, zac]; have e2 : (Nat.ble 0 cap && Nat.blt cap 1000000 && Nat.blt (cap * z.bytes) 1000000000 && Nat.beq (zbw z.zero) z.size) = true := by
  rw [hzero, hs, show Nat.ble 0 cap = true from zj2.2 (Nat.zero_le _), zdl.2 hn]
  have : cap * z.bytes < 1000000000 := by
   have := Nat.mul_le_mul (Nat.le_of_lt hn) hby
   omega
  rw [zdl.2 this]; rfl
 rw [e2, zaz, hzero, hrep, h1]
end
end Go.Am
namespace Go.Proofs
open Go Go.Am
variable [zcf]
variable {t : Tr zal}
def zzx (b : Bool) : List Nat := if b then [116, 114, 117, 101] else [102, 97, 108, 115, 101]
def zfk : List Nat -> List Nat
 | [] => []
 | x :: l => x / 256 :: x % 256 :: zfk l
def keyW (w : zdq) : List Nat := 44 :: zzx w.neg ++ zy8 ((2 * w.limbs.length : Nat) : Int) ++ [44] ++ zfk w.limbs
def za8 (v : zcg) : List Nat := zy8 (v.kind : Int) ++ [44] ++ zy8 v.i ++ keyW v.f.n ++ keyW v.f.d
theorem zi3 : ∀ l, (zfk l).length = 2 * l.length
 | [] => rfl
 | x :: l => by simp [zfk, zi3 l]; omega
theorem ztb : ∀ (l : List Nat) (x : Nat), zfk (l ++ [x]) = zfk l ++ [x / 256, x % 256]
 | [], x => rfl
 | y :: l, x => by simp [zfk, ztb l x]
theorem zw9 : ∀ {l : List Nat}, za5 65536 l -> za5 256 (zfk l)
 | [], _ => fun x hx => (by cases hx)
 | y :: l, h => fun x hx => by
  have hy := h y (by simp)
  simp only [zfk, yat] at hx; rcases hx with rfl | rfl | hx
  ·omega
  ·omega
  ·exact zw9 (l := l) (fun z hz => h z (by simp [hz])) x hx
theorem zo7 {n : Int} (h0 : -9223372036854775808 <= n) (h1 : n < 9223372036854775808) : (zy8 n).length <= 21 := by
 unfold zy8; rw [yag]; exact Lib.itoa_length_le n h0 (by omega)
theorem zy7 {n : Int} (h0 : -9223372036854775808 <= n) (h1 : n < 9223372036854775808) : pvC C19 F 291 [.int .i64 n] t = some (.str (zy8 n)) := by
 have hg : C19.prims.get 291 = some z7g := by kernel_rfl
 refine zt1 hg fun H => ?_
 unfold z7g; simp only []; rw [zda.2 h0, zat.2 h1]; rfl
theorem zzde {b : Bool} : pvC C19 F 246 [.bool b] t = some (.str (zzx b)) := by
 refine zbk.2 (w246 _ ?_)
 simp only [t246, wpT, q287]; refine w287 _ ?_
 cases b <;> simp only [t287, wpT, if_true, yar, if_false, zca, zaa] <;> (first | exact ⟨rfl, rfl⟩ | exact ⟨rfl, trivial⟩ | trivial)
theorem zlv {a b : List Nat} (h : a.length + b.length < 4611686018427387904) : z6q a b = some (.str (a ++ b)) := by
 unfold z6q; rw [zbb, zbb, zdl.2 h, zcl]; rfl
theorem el188 : zxq C19 188 5 1 := ⟨⟨_, zza6, rfl, rfl⟩, ⟨_, ty5, rfl, rfl, by decide, by decide⟩⟩
theorem z8q {s : List Nat} {f : zem} {fa fb : zab} {j : Nat} {w : zdq} {u : zab} {b : Nat} {t0 : Tr zal} {Q : zaw} (hu : RSl t0 1 (zd2 w.limbs) u) (hl : w.limbs.length < 400) (hlt : za5 65536 w.limbs) (hs : s.length < 4000) (hbase : C19.base <= b) (hb : t0.get b = none)
  (hQ : ∀ t', TLe t0 t' -> jp 276 2 [.str (s ++ keyW w), .agg [.bool f.n.neg, fa, .bool f.d.neg, fb], .int .i64 (zah .i64 ((j : Int) + 1))] t' Q) :
  ∀ (m i : Nat) (t' : Tr zal), i + m = w.limbs.length -> TLe t0 t' -> Cel t' b none (zgi (zfk (w.limbs.take i)) ++ List.replicate (2 * m + 1) (.int .u8 0)) →
  jp 276 6 [.str s, .slice b 0 (2 * i) (2 * w.limbs.length + 1), .agg [.bool f.n.neg, fa, .bool f.d.neg, fb], .int .i64 (j : Int), u, .int .i64 (w.limbs.length : Int), .int .i64 (i : Int), .bool w.neg, u] t' Q := by
 intro m; induction m with
 | zero =>
  intro i t' hi ht hc; refine zzfh _ _ _ _ _ _ _ _ _ _ _ _ ?_
  rw [ybb (by omega)] at hc
  have lv : zba (.slice b 0 (2 * i) (2 * w.limbs.length + 1)) = some (.int .i64 ((2 * w.limbs.length : Nat) : Int)) := by
   have : i = w.limbs.length := by omega
   subst this; rfl
  have cv : zl6 C19 188 9 ⟨0, t'⟩ (.slice b 0 (2 * i) (2 * w.limbs.length + 1)) = some (.str (zfk w.limbs)) := by
   refine z35 zza6 ty9 rfl rfl rfl ty5 rfl hc (by rw [zi3]; omega) (fun k x hk => ?_) (zw9 hlt)
   rw [List.getElem?_append_left (by simp [zgi, (yad.1 hk).1])]
   simp [zgi, hk]
  have hlb := zi3 w.limbs
  have hli := zo7 (n := ((2 * w.limbs.length : Nat) : Int)) (by omega) (by omega)
  have hbt : (zzx w.neg).length <= 5 := by unfold zzx; split <;> simp
  simp only [z58, wpT, zat]; rw [if_neg (by omega)]
  simp only [lv, cv, zaa, zag, zca, zfa, zo2, if_true, q246, zzde]; rw [zlv (a := [44]) (b := zzx w.neg) (by simp; omega)]
  simp only [zaa, zca, q291]; rw [zy7 (by omega) (by omega)]
  simp only [zaa, zca, cv, zo2, if_true]; rw [zlv (by simp only [yah, yao, yay]; omega)]
  simp only [zaa, zca]; rw [zlv (by simp only [yah, yao, yay]; omega)]
  simp only [zaa, zca]; rw [zlv (by simp only [yah, yao, yay]; omega)]
  simp only [zaa, zca]; rw [zlv (by simp only [yah, yao, yay]; omega)]
  simp only [zaa, zca]; exact hQ t' ht
 | succ m ih =>
  intro i t' hi ht hc; have hlt1 : i < w.limbs.length := by omega
  obtain ⟨x, hx⟩ := getElem?_of_lt hlt1
  have hx16 : x < 65536 := zbt hlt hx
  obtain ⟨p, off, g1, g2⟩ := RSl.idx (C := C19) zzbo (hu.mono ht) hx
  refine zzfh _ _ _ _ _ _ _ _ _ _ _ _ ?_
  simp only [z58, wpT, zat]; have e1 : zah .u8 (Int.fdiv (x : Int) 256) = ((x / 256 : Nat) : Int) := by
   rw [show Int.fdiv (x : Int) 256 = ((x / 256 : Nat) : Int) from zey _ 256, z4u (by omega) (by omega)]
  have e2 : zah .u8 (x : Int) = ((x % 256 : Nat) : Int) := by
   have : zah .u8 (x : Int) = (x : Int) % 256 := by rw [zc6]; simp only [IntKind.wrap, IntKind.bits, IntKind.signed]; simp
   rw [this]; omega
  rw [if_pos (by omega), g1, zaa, g2, zaa, zag, zaa, e1, e2]
  intro n hn _; obtain ⟨t1, a1, a2, a3, a4⟩ := zhf (C := C19) (T := 188) (el := 5) (sz := 1) (n := 2) (cl := [[.int .u8 ((x / 256 : Nat) : Int)], [.int .u8 ((x % 256 : Nat) : Int)]]) (ps := [(0, .int .u8 ((x / 256 : Nat) : Int)), (1, .int .u8 ((x % 256 : Nat) : Int))]) zza6 rfl ty5 rfl rfl (by decide) rfl (fun i cs hi => by
   rcases i with _ | _ | i
   ·simp at hi; subst hi; rfl
   ·simp at hi; subst hi; rfl
   ·simp at hi) rfl hn
  have hbn : b ≠ n := by
   intro e; subst e; obtain ⟨c, hc1, _⟩ := hc
   rw [hc1] at hn; cases hn
  rw [a1, zaa]; intro k _ _; have htl : (w.limbs.take i).length = i := by simp; omega
  have hbl : (zgi (zfk (w.limbs.take i))).length = 2 * i := by simp [zgi, zi3, htl]
  obtain ⟨t2, b1, b2, b3⟩ := zz1 (C := C19) (n := k) (k := 2 * i) (m := 2) (cap := 2 * w.limbs.length + 1) el188 (hc.off (a4 b hbn)) hbase a2 rfl (by decide) (by omega) (by simp [hbl]; omega) (by
   intro a ha; simp only [List.flatten_cons, List.flatten_nil, ybe, List.singleton_append, yat, List.not_mem_nil, or_false] at ha; rcases ha with rfl | rfl <;> rfl)
  have b1' : zbn C19 188 188 (.slice b 0 (2 * i) (2 * w.limbs.length + 1)) (.slice n 0 2 2) ⟨k, t1⟩ = some (.slice b 0 (2 * i + 2) (2 * w.limbs.length + 1), ⟨k, t2⟩) := b1
  rw [b1', zaa, zak (by omega) (by omega)]
  have hcells : zic (zgi (zfk (w.limbs.take i)) ++ List.replicate (2 * (m + 1) + 1) (.int .u8 0)) (2 * i) [.int .u8 ((x / 256 : Nat) : Int), .int .u8 ((x % 256 : Nat) : Int)] = zgi (zfk (w.limbs.take (i + 1))) ++ List.replicate (2 * m + 1) (.int .u8 0) := by
   have hdr : (zgi (zfk (w.limbs.take i)) ++ List.replicate (2 * (m + 1) + 1) (zab.int .u8 0)).drop (2 * i + 2) = List.replicate (2 * m + 1) (.int .u8 0) := by
    rw [List.drop_append, List.drop_of_length_le (by omega), hbl, List.nil_append, List.drop_replicate]; congr 1; omega
   unfold zic; rw [List.take_left' hbl]; show zgi (zfk (w.limbs.take i)) ++ ([.int .u8 ((x / 256 : Nat) : Int), .int .u8 ((x % 256 : Nat) : Int)] ++ (zgi (zfk (w.limbs.take i)) ++ List.replicate (2 * (m + 1) + 1) (zab.int .u8 0)).drop (2 * i + 2)) = _
   rw [hdr, ze9 hx, ztb]; unfold zgi; rw [List.map_append, yba]; rfl
  have b2' : Cel t2 b none (zgi (zfk (w.limbs.take (i + 1))) ++ List.replicate (2 * m + 1) (.int .u8 0)) := by rw [<- hcells]; exact b2
  have := ih (i + 1) t2 (by omega) ((ht.trans a3).off hb b3) b2'
  rw [show 2 * (i + 1) = 2 * i + 2 by omega, show ((i + 1 : Nat) : Int) = (i : Int) + 1 by omega] at this
  exact this
theorem zwk {s : List Nat} {f : zem} {fa fb : zab} {j : Nat} {w : zdq} {u : zab} {Q : zaw} (hj : j < 2) (hv : zjq C19 325 (.agg [.bool f.n.neg, fa, .bool f.d.neg, fb]) (.int .i64 (j : Int)) = some (.agg [.bool w.neg, u])) (hu : RSl t 1 (zd2 w.limbs) u) (hl : w.limbs.length < 400) (hlt : za5 65536 w.limbs) (hs : s.length < 4000)
  (hQ : ∀ t', TLe t t' -> jp 276 2 [.str (s ++ keyW w), .agg [.bool f.n.neg, fa, .bool f.d.neg, fb], .int .i64 ((j + 1 : Nat) : Int)] t' Q) : jp 276 2 [.str s, .agg [.bool f.n.neg, fa, .bool f.d.neg, fb], .int .i64 (j : Int)] t Q := by
 refine zzfi _ _ _ _ _ _ ?_
 simp only [z6a, wpT, zat]; have hz : zrc [(.bool false), .nilslice] (.agg [.bool w.neg, u]) = some (cellsOf [.bool w.neg, u]) := zhq (by
  show (true && (zj1 .nilslice u && true)) = true
  rw [zbi hu]; rfl)
 have hone : zeb zab.one [.bool w.neg, u] = true := by rw [zcb]; simp only [ybh, List.all_nil, hu.one]; rfl
 rw [if_pos (by omega), hv, zaa, hz, zaa]
 simp only [cellsOf, zde, ze6, yaa, yab]; refine zbf hone ?_
 rw [hu.len, zjl, zaa, zag, zaa]; have e1 : zah .i64 (zah .i64 (2 * (w.limbs.length : Int)) + 1) = ((2 * w.limbs.length + 1 : Nat) : Int) := by
  rw [zak (n := 2 * (w.limbs.length : Int)) (by omega) (by omega), zak (by omega) (by omega)]; omega
 rw [e1]; intro b hb hbase; obtain ⟨t', g1, g2, g3, _⟩ := z7u (C := C19) (k := .u8) (cap := 2 * w.limbs.length + 1) zza6 rfl ty5 rfl rfl (by decide) (by omega) hb
 rw [g1, zaa, zaa, zag, zaa]; have ej : zah .i64 ((j : Int) + 1) = ((j + 1 : Nat) : Int) := by rw [zak (by omega) (by omega)]; omega
 exact z8q (f := f) (j := j) hu hl hlt hs hbase hb (fun t2 h2 => by rw [ej]; exact hQ t2 h2) w.limbs.length 0 t' (by omega) g3 (by simpa [zfk, zgi] using g2)
def zcg.short (v : zcg) : Prop := v.f.n.limbs.length < 400 /\ v.f.d.limbs.length < 400
theorem key_ok {v : zcg} {a b : zab} (hv : v.fit) (hs : zcg.short v) (ha : RSl t 1 (zd2 v.f.n.limbs) a) (hb : RSl t 1 (zd2 v.f.d.limbs) b) : pvC C19 F 276 [.agg [.int .u8 v.kind, .bool v.f.n.neg, a, .bool v.f.d.neg, b, .int .i64 v.i]] t = some (.str (za8 v)) := by
 obtain ⟨h1, h2, h3, h4⟩ := hv
 obtain ⟨_, hn, hd⟩ := h2
 have l1 := zo7 (n := (v.kind : Int)) (by omega) (by omega)
 have l2 := zo7 h3 h4
 have hk : zah .i64 (v.kind : Int) = (v.kind : Int) := zak (by omega) (by omega)
 have v0 : zjq C19 325 (.agg [.bool v.f.n.neg, a, .bool v.f.d.neg, b]) (.int .i64 ((0 : Nat) : Int)) = some (.agg [.bool v.f.n.neg, a]) := by kernel_rfl
 have v1 : zjq C19 325 (.agg [.bool v.f.n.neg, a, .bool v.f.d.neg, b]) (.int .i64 ((0 + 1 : Nat) : Int)) = some (.agg [.bool v.f.d.neg, b]) := by kernel_rfl
 have lk : (keyW v.f.n).length < 1000 := by
  have hbt : (zzx v.f.n.neg).length <= 5 := by unfold zzx; split <;> simp
  have hli := zo7 (n := ((2 * v.f.n.limbs.length : Nat) : Int)) (by omega) (by have := hs.1; omega)
  have := hs.1
  unfold keyW; simp [zi3]
  simp at hli; omega
 refine z3a (w276 _ _ _ _ _ _ ?_)
 simp only [t276, wpT, hk]; rw [q291, zy7 (by omega) (by omega), zaa, zca, zaa, if_pos zfa, zlv (by simp only [yah, yao, yay]; omega), zaa, zca, zaa, q291, zy7 h3 h4, zaa, zca, zaa, zlv (by simp only [yah, yao, yay]; omega), zaa, zca, zaa]
 simp only [if_true]; refine zwk (f := v.f) (j := 0) (w := v.f.n) (by omega) v0 ha hs.1 hn (by simp; omega) fun t1 k1 => ?_
 refine zwk (f := v.f) (j := 0 + 1) (w := v.f.d) (by omega) v1 (hb.mono k1) hs.2 hd (by simp; omega) fun t2 k2 => ?_
 refine zzfi _ _ _ _ _ _ ?_
 simp only [z6a, wpT, zat]; rw [if_neg (by omega)]
 exact ⟨by unfold za8; rfl, k1.trans k2⟩
end Go.Proofs
