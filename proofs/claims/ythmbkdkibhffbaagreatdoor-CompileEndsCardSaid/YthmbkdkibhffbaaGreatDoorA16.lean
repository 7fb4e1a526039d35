/- Sizes and depths of expressions; bounded plans. -/
import Derived.Lib.ItoaLen
import Derived.Test.YthmbkdkibhffbaaGreatDoorA15
set_option linter.all false
noncomputable section
set_option maxRecDepth 100000
namespace Go.Proofs
open Go Go.Am
variable [zcm]
variable {t : Tr zal}
mutual
/-- parts are counted, up to a limit -/
def zha : zam -> Nat -> Nat -> Bool × Nat
 | .mk _ _ _ args, deep, c => if 200 < c + 1 then (false, c + 1) else if 24 < deep then (false, c + 1) else zhb args (deep + 1) (c + 1)
def zhb : List zam -> Nat -> Nat -> Bool × Nat
 | [], _, c => (true, c)
 | x :: l, deep, c => if (zha x deep c).1 = true then zhb l deep (zha x deep c).2 else (false, (zha x deep c).2)
end
mutual
theorem zpv : ∀ (x : zam) (deep c : Nat), c <= 200 -> (zha x deep c).2 <= 201 /\ ((zha x deep c).1 = true -> (zha x deep c).2 <= 200)
 | .mk _ _ _ args, deep, c, h => by
  unfold zha; split
  ·simp; omega
  ·split
   ·simp; omega
   ·exact zvj args (deep + 1) (c + 1) (by omega)
theorem zvj : ∀ (l : List zam) (deep c : Nat), c <= 200 -> (zhb l deep c).2 <= 201 /\ ((zhb l deep c).1 = true -> (zhb l deep c).2 <= 200)
 | [], deep, c, h => by unfold zhb; simp; omega
 | x :: l, deep, c, h => by
  have h1 := zpv x deep c h
  unfold zhb; split
  ·rename_i e
   exact zvj l deep _ (h1.2 e)
  ·simp; omega
end
theorem z02 {x : zam} {a b c : zab} (ha : zab.one a = true) (hb : zab.one b = true) (hc : zab.one c = true) : zd7 zab.one [.int .u8 x.op, .str x.name, .int .u8 x.v.kind, .bool x.v.f.n.neg, a, .bool x.v.f.d.neg, b, .int .i64 x.v.i, c] = true := by
 rw [zcc]; simp only [ybh, List.all_nil, ha, hb, hc]; rfl
theorem zy7 {l : List zam} {v : zab} (hv : RSl t 9 (l.map zam.d) v) {i : Nat} {x : zam} (hx : l[i]? = some x) :
  ∃ b off a c d, zae C19 48 v (.int .i64 (i : Int)) = some (.ptr b off) /\ zao C19 50 ⟨0, t⟩ (.ptr b off) = some (.agg (zex x a c d)) /\ RD t x.d (zex x a c d) /\ zoy [(.int .u8 0), (.str []), (.int .u8 0), (.bool false), .nilslice, (.bool false), .nilslice, (.int .i64 0), .nilslice] (.agg (zex x a c d)) = some (cellsOf (zex x a c d)) ∧
   RSl t 1 (zd8 x.v.f.n.limbs) a /\ RSl t 1 (zd8 x.v.f.d.limbs) c /\ RSl t 9 (x.args.map zam.d) d := by
 obtain ⟨b, off, cs, g1, g2, _, _, g5⟩ := zkk.at sl48 (by simp) hv (i := i) (d := x.d) (by simp [hx])
 have hz := zl0 g5 x.zs
 obtain ⟨a, c, d, rfl, h1, h2, h3⟩ := zhf g5
 exact ⟨b, off, a, c, d, g1, g2, g5, hz, h1, h2, h3⟩
section
variable {tf : Tr zal} {c w : Nat}
mutual
theorem z4m : ∀ (x : zam) (deep n : Nat) (cs : List zab) (t : Tr zal) (Q : zaw), x.ok -> deep <= 25 -> n <= 200 -> RD tf x.d cs -> TLe tf t -> C19.base <= c -> tf.get c = none -> Cel tf w none [.func (.func 116) [] [.ptr c 0, .ptr w 0]] -> Cel t c none [.int .i64 (n : Int)] →
  (∀ t', Off c t t' -> TLe tf t' -> Cel t' c none [.int .i64 ((zha x deep n).2 : Int)] -> Q (.bool (zha x deep n).1) t') -> Wc C19 F 116 [.agg cs, .int .i64 (deep : Int), .ptr c 0, .ptr w 0] t Q
 | .mk op name v args, deep, n, cs, t, Q, hx, hdeep, hn, h, ht, hc, hfc, hw, hcel, hQ => by
  obtain ⟨a, b, d, rfl, ha, hb, hd⟩ := zhf h
  simp only [zam.op, zam.name, zam.v, zam.args] at ha hb hd; have hx' := hx
  unfold zam.ok zgl at hx'; have l0 : zao C19 3 ⟨0, t⟩ (.ptr c 0) = some (.int .i64 (n : Int)) := hcel.load1 ty3 rfl rfl
  obtain ⟨t1, s1, s2, s3⟩ := hcel.store1 (C := C19) hc (j := 0) (v := .int .i64 ((n + 1 : Nat) : Int)) ty3 rfl rfl rfl (by simp)
  have s2 : Cel t1 c none [.int .i64 ((n + 1 : Nat) : Int)] := s2
  have ht1 : TLe tf t1 := ht.off hfc s3
  have l1 : zao C19 3 ⟨0, t1⟩ (.ptr c 0) = some (.int .i64 ((n + 1 : Nat) : Int)) := s2.load1 ty3 rfl rfl
  have e1 : (n : Int) + 1 = ((n + 1 : Nat) : Int) := by omega
  refine w116 _ _ _ _ _ _ _ _ _ _ _ _ ?_
  simp only [t116, wpT]; rw [l0, zaa, zag, zaa, e1, zak (by omega) (by omega)]
  intro m _ _; rw [s1, zaa, l1, zaa, zag, zaa]; simp only [zax]; unfold zha at hQ; by_cases h1 : 200 < n + 1
  ·rw [if_pos (by omega)]
   rw [if_pos h1] at hQ; exact hQ t1 s3 ht1 s2
  ·rw [if_neg (by omega)]
   rw [if_neg h1] at hQ; by_cases h2 : 24 < deep
   ·rw [if_pos (by omega)]
    rw [if_pos h2] at hQ; exact hQ t1 s3 ht1 s2
   ·rw [if_neg (by omega)]
    rw [if_neg h2] at hQ; rw [(hd.mono ht1).len, zaa, yag, zag, zaa]
    exact zz2 args args deep (n + 1) d 0 t1 Q hd rfl hx'.2.2.2 hx'.2.2.1 (by omega) (by omega) ht1 hc hfc hw s2 (fun t' k1 k2 k3 => hQ t' (s3.trans k1) k2 k3)
theorem zz2 : ∀ (l args : List zam) (deep n : Nat) (d : zab) (i : Nat) (t : Tr zal) (Q : zaw), RSl tf 9 (args.map zam.d) d -> args.drop i = l -> zam.oks l -> args.length < 1125899906842624 -> deep <= 24 -> n <= 200 -> TLe tf t -> C19.base <= c -> tf.get c = none -> Cel tf w none [.func (.func 116) [] [.ptr c 0, .ptr w 0]] -> Cel t c none [.int .i64 (n : Int)] →
  (∀ t', Off c t t' -> TLe tf t' -> Cel t' c none [.int .i64 ((zhb l (deep + 1) n).2 : Int)] -> Q (.bool (zhb l (deep + 1) n).1) t') -> jp 116 2 [.int .i64 (deep : Int), .ptr w 0, d, .int .i64 (args.length : Int), .int .i64 (i : Int)] t Q
 | [], args, deep, n, d, i, t, Q, hd, hl, hok, hsz, hdeep, hn, ht, hc, hfc, hw, hcel, hQ => by
  have := zmv hl
  refine zze6 _ _ _ _ _ ?_
  simp only [z54, wpT, zax]; rw [if_neg (by omega)]
  unfold zhb at hQ; exact hQ t (Off.refl _ _) ht hcel
 | x :: l, args, deep, n, d, i, t, Q, hd, hl, hok, hsz, hdeep, hn, ht, hc, hfc, hw, hcel, hQ => by
  obtain ⟨h1, h2, h3⟩ := zk0 hl
  have hok' := hok
  unfold zam.oks at hok'; obtain ⟨b', off, a1, b1, c1, g1, g2, g3, g4, g5, g6, g7⟩ := zy7 (hd.mono ht) h1
  obtain ⟨b2, off2, a2, c2, d2, k1, k2, k3, k4, k5, k6, k7⟩ := zy7 hd h1
  have e : b' = b2 /\ off = off2 := by rw [g1] at k1; cases k1; (first | exact ⟨rfl, rfl⟩ | exact ⟨rfl, trivial⟩ | trivial)
  obtain ⟨rfl, rfl⟩ := e
  have e2 := zed (HA := ⟨0, t⟩) (fun _ _ h => ht _ _ h) k2
  rw [g2] at e2; have e3 : zex x a1 b1 c1 = zex x a2 c2 d2 := by cases e2; rfl
  rw [<- e3] at k3; have lw : zao C19 73 ⟨0, t⟩ (.ptr w 0) = some (.func (.func 116) [] [.ptr c 0, .ptr w 0]) := zed (H := ⟨0, tf⟩) (fun _ _ h => ht _ _ h) (hw.load1 ty73 rfl rfl)
  have f : ∀ a b, znz (.func (.func 116) [] [.ptr c 0, .ptr w 0]) [a, b] = some (116, [a, b, .ptr c 0, .ptr w 0]) := fun _ _ => rfl
  have e1 : (deep : Int) + 1 = ((deep + 1 : Nat) : Int) := by omega
  refine zze6 _ _ _ _ _ ?_
  simp only [z54, wpT, zax]; rw [if_pos (by omega), g1, zaa, g2, zaa, g4, zaa]
  simp only [zex, cellsOf, zig, zdk, zfn, zju, yaa, yab]; refine zbp (z02 g5.one g6.one g7.one) ?_
  rw [lw, zaa, f, zaa, e1, zak (by omega) (by omega), q116]
  have hle := zpv x (deep + 1) n hn
  refine z4m x (deep + 1) n _ t _ hok'.1 (by omega) hn k3 ht hc hfc hw hcel fun t' m1 m2 m3 => ?_
  rw [zay, zaa]; unfold zhb at hQ
  cases hq : (zha x (deep + 1) n).1 with
  | false =>
   rw [hq, if_neg (by simp)] at hQ
   simp only [Bool.not_false, if_true]; exact hQ t' m1 m2 m3
  | true =>
   rw [hq, if_pos rfl] at hQ; simp only [Bool.not_true, yar, if_false]; rw [zak (by omega) (by omega), show (i : Int) + 1 = ((i + 1 : Nat) : Int) by omega]
   exact zz2 l args deep _ d (i + 1) t' Q hd h2 hok'.2 hsz hdeep (hle.2 hq) m2 hc hfc hw m3 fun t'' p1 p2 p3 => hQ t'' (m1.trans p1) p2 p3
end
end
def zmc (x : zam) : Bool := (zha x 1 0).1
theorem z0k {x : zam} {cs : List zab} (hx : x.ok) (h : RD t x.d cs) : pvC C19 F 63 [.agg cs] t = some (.bool (zmc x)) := by
 obtain ⟨a, b, d, rfl, ha, hb, hd⟩ := zhf h
 refine z2y (w63 _ _ _ _ _ _ _ _ _ ?_)
 simp only [t63, wpT]; intro c hc hcb; obtain ⟨t1, g1, g2, g3, g4⟩ := zq9 (C := C19) ty3 hc
 rw [g1, zaa]; intro m1 _ _; obtain ⟨t2, s1, s2, s3⟩ := g2.store1 (C := C19) hcb (j := 0) (v := .int .i64 ((0 : Nat) : Int)) ty3 rfl rfl rfl (by decide)
 have s1' : zb4 C19 3 (.ptr c 0) (.int .i64 0) ⟨m1, t1⟩ = some (zbt, ⟨m1, t2⟩) := s1 m1
 rw [s1', zaa]; intro w hw hwb; have hwc : w ≠ c := by
  intro e; subst e; obtain ⟨x, hx, _⟩ := s2
  rw [hx] at hw; cases hw
 have htw : t.get w = none := by
  cases hq : t.get w with
  | none => rfl
  | some y => have := (g3.off hc s3) _ _ hq; rw [hw] at this; cases this
 obtain ⟨t3, g5, g6, g7, g8⟩ := zq9 (C := C19) ty73 hw
 rw [g5, zaa]; intro m2 _ _; obtain ⟨t4, s4, s5, s6⟩ := g6.store1 (C := C19) hwb (j := 0) (v := .func (.func 116) [] [.ptr c 0, .ptr w 0]) ty73 rfl rfl rfl (by decide)
 have s4' := s4 m2
 rw [s4', zaa]; have s5 : Cel t4 w none [.func (.func 116) [] [.ptr c 0, .ptr w 0]] := s5
 have lw : zao C19 73 ⟨0, t4⟩ (.ptr w 0) = some (.func (.func 116) [] [.ptr c 0, .ptr w 0]) := s5.load1 ty73 rfl rfl
 have f : ∀ a b, znz (.func (.func 116) [] [.ptr c 0, .ptr w 0]) [a, b] = some (116, [a, b, .ptr c 0, .ptr w 0]) := fun _ _ => rfl
 rw [lw, zaa, f, zaa, q116]; have hc4 : t4.get c = t2.get c := by rw [s6 c (Ne.symm hwc), g8 c (Ne.symm hwc)]
 have hcel : Cel t4 c none [.int .i64 ((0 : Nat) : Int)] := s2.off hc4
 obtain ⟨blk, hblk, hblk2⟩ := s5
 have htf : TLe t (t.set w (.cells blk 1 none)) := (zc9 htw _).1
 have hft : TLe (t.set w (.cells blk 1 none)) t4 := by
  intro k y hk; rw [Tr.get_set] at hk; split at hk
  ·rename_i e; subst e; cases hk; exact hblk
  ·rename_i e
   have hkc : k ≠ c := by intro e'; subst e'; rw [hc] at hk; cases hk
   rw [s6 k e, g8 k e, s3 k hkc, g4 k hkc]; exact hk
 refine z4m (tf := t.set w (.cells blk 1 none)) (c := c) (w := w) x 1 0 _ t4 _ hx (by omega) (by omega) (RD.mono htf _ _ h) hft hcb (by rw [Tr.get_set, if_neg (Ne.symm hwc)]; exact hc) ⟨blk, by rw [Tr.get_set, if_pos rfl]; rfl, hblk2⟩ hcel fun t' k1 k2 k3 => ?_
 rw [zay, zaa]; exact ⟨rfl, htf.trans k2⟩
end Go.Proofs
namespace Go.Proofs
open Go Go.Am
variable [zcm]
variable {t : Tr zal}
def zft (x : za4) (a b c a' b' c' : zab) : List zab := [.str x.name, .str x.label, .int .i64 x.from_, .int .i64 x.to, .int .i64 x.known, .bool x.off, .int .u8 x.when_.op, .str x.when_.name, .int .u8 x.when_.v.kind, .bool x.when_.v.f.n.neg, a, .bool x.when_.v.f.d.neg, b, .int .i64 x.when_.v.i, c, .int .u8 x.then_.op, .str x.then_.name, .int .u8 x.then_.v.kind, .bool x.then_.v.f.n.neg, a', .bool x.then_.v.f.d.neg, b', .int .i64 x.then_.v.i, c']
def zs9 : List zab := [(.str []), (.str []), (.int .i64 0), (.int .i64 0), (.int .i64 0), (.bool false), (.int .u8 0), (.str []), (.int .u8 0), (.bool false), .nilslice, (.bool false), .nilslice, (.int .i64 0), .nilslice, (.int .u8 0), (.str []), (.int .u8 0), (.bool false), .nilslice, (.bool false), .nilslice, (.int .i64 0), .nilslice]
theorem z23 {x : za4} {a b c a' b' c' : zab} (ha : zab.one a = true) (hb : zab.one b = true) (hc : zab.one c = true) (ha' : zab.one a' = true) (hb' : zab.one b' = true) (hc' : zab.one c' = true) : zd7 zab.one (zft x a b c a' b' c') = true := by
 rw [zcc]; simp only [zft, ybh, List.all_nil, ha, hb, hc, ha', hb', hc']; rfl
theorem zqy {l : List za4} {v : zab} (hv : RSl t 24 (l.map za4.d) v) {i : Nat} {x : za4} (hx : l[i]? = some x) :
  ∃ p off a b c a' b' c', zae C19 24 v (.int .i64 (i : Int)) = some (.ptr p off) /\ zao C19 52 ⟨0, t⟩ (.ptr p off) = some (.agg (zft x a b c a' b' c')) /\ zoy zs9 (.agg (zft x a b c a' b' c')) = some (cellsOf (zft x a b c a' b' c')) ∧
   RD t x.when_.d (zex x.when_ a b c) /\ RD t x.then_.d (zex x.then_ a' b' c') /\ zd7 zab.one (zft x a b c a' b' c') = true := by
 obtain ⟨p, off, cs, g1, g2, _, _, g5⟩ := zkk.at sl24 (by simp) hv (i := i) (d := x.d) (by simp [hx])
 have hz := zl0 g5 x.zs
 obtain ⟨a, b, c, a', b', c', rfl, h1, h2⟩ := zp5 g5
 obtain ⟨u1, u2, u3, e1, m1, m2, m3⟩ := zhf h1
 obtain ⟨w1, w2, w3, e2, n1, n2, n3⟩ := zhf h2
 unfold zex at e1 e2
 cases e1
 cases e2
 exact ⟨p, off, _, _, _, _, _, _, g1, g2, hz, h1, h2, z23 m1.one m2.one m3.one n1.one n2.one n3.one⟩
def zf3 (c : za4) : Bool := zmc c.when_ && zmc c.then_
def zfk (p : zjm) : Bool := decide (p.defs.length <= 64) && decide (p.clauses.length <= 400) && decide (p.tables.length <= 16) && p.clauses.all zf3 && p.tables.all zla
theorem zx2 {l : List zb9} {v : zab} (hv : RSl t 3 (l.map zb9.d) v) (hn : l.length < 1125899906842624) (hf : ∀ x ∈ l, x.fit) : ∀ (k i : Nat), i + k = l.length -> jp 33 6 [v, .int .i64 (l.length : Int), .int .i64 (i : Int)] t (fun r m => r = .bool ((l.drop i).all zla) /\ m = t) := by
 intro k; induction k with
 | zero =>
  intro i hi; refine j33_6 _ _ _ ?_
  simp only [zzfz, wpT, zax]; rw [if_neg (by omega), yau (by omega)]
  (first | exact ⟨rfl, rfl⟩ | exact ⟨rfl, trivial⟩ | trivial)
 | succ k ih =>
  intro i hi; have h1 : i < l.length := by omega
  obtain ⟨b, off, cs, g1, g2, _, _, g5⟩ := zkk.at sl23 (by simp) hv (i := i) (d := l[i].d) (by simp [yae h1])
  have hz := zl0 g5 (zb9.zs _)
  obtain ⟨a, rfl, ha⟩ := zo2 g5
  have hfit := hf _ (List.getElem_mem h1)
  have hone : zd7 zab.one [.str l[i].name, .bool l[i].two, a] = true := by rw [zcc]; simp only [ybh, List.all_nil, ha.one]; rfl
  refine j33_6 _ _ _ ?_
  simp only [zzfz, wpT, zax]; rw [if_pos (by omega), g1, zaa, g2, zxs, zaa, hz, zaa]
  simp only [cellsOf, zju, zdk, zfn, yaa, yab]; refine zbp hone ?_
  rw [q64, z4o ha hfit.2.1 hfit.1 (fun r hr => (hfit.2.2 r hr).2.2.2), zaa, zay, zaa, yam h1, ybh]
  cases hq : zla l[i] with
  | false => simp
  | true =>
   simp only [Bool.not_true, yar, if_false, Bool.true_and]; rw [zak (by omega) (by omega)]
   exact ih (i + 1) (by omega)
theorem zwz {p : zjm} {l : List za4} {v a b : zab} (hp : l = p.clauses) (hv : RSl t 24 (l.map za4.d) v) (hb : RSl t 3 (p.tables.map zb9.d) b) (hn : l.length < 1125899906842624) (hnt : p.tables.length < 1125899906842624) (hf : ∀ x ∈ l, x.fit) (hft : ∀ x ∈ p.tables, x.fit) : ∀ (k i : Nat), i + k = l.length -> jp 33 2 [v, .int .i64 (l.length : Int), .int .i64 (i : Int), .str p.name, a, b, v] t (fun r m => r = .bool ((l.drop i).all zf3 && p.tables.all zla) /\ m = t) := by
 intro k; induction k with
 | zero =>
  intro i hi; refine j33_2 _ _ _ _ _ _ _ ?_
  simp only [zzf0, wpT, zax]; rw [if_neg (by omega), yau (by omega), hb.len, zaa, yag, zag, zaa]
  have := zx2 hb hnt hft p.tables.length 0 (by omega)
  rw [List.drop_zero] at this; exact this
 | succ k ih =>
  intro i hi; have h1 : i < l.length := by omega
  obtain ⟨q, off, u1, u2, u3, w1, w2, w3, g1, g2, g3, g4, g5, g6⟩ := zqy hv (yae h1)
  have hfit := hf _ (List.getElem_mem h1)
  refine j33_2 _ _ _ _ _ _ _ ?_
  simp only [zzf0, wpT, zax]; unfold zs9 at g3; rw [if_pos (by omega), g1, zaa, g2, zaa, g3, zaa]
  unfold zft at g6; simp only [zft, cellsOf, zig, zju, zdk, zfn, yaa, yab]; have s1 := z0k (zam.fit_ok hfit.2.2.2.2.2.1) g4
  have s2 := z0k (zam.fit_ok hfit.2.2.2.2.2.2) g5
  unfold zex at s1 s2; refine zbp g6 ?_
  rw [q63, s1, zaa, zay, zaa, q63, s2, zaa, zay, zaa, yam h1, ybh]; have e : zf3 l[i] = (zmc l[i].when_ && zmc l[i].then_) := rfl
  rw [e]
  cases hq : zmc l[i].when_ with
  | false => simp
  | true =>
   cases hq2 : zmc l[i].then_ with
   | false => simp
   | true =>
    simp only [Bool.not_true, yar, if_false, Bool.true_and]; rw [zak (by omega) (by omega)]
    exact ih (i + 1) (by omega)
theorem z30 {p : zjm} {cs : List zab} (hp : p.fit) (h : RD t p.d cs) : pvC C19 F 33 [.agg cs] t = some (.bool (zfk p)) := by
 obtain ⟨a, b, c, rfl, ha, hb, hc⟩ := zp4 h
 obtain ⟨p1, p2, p3, p4, p5, p6, p7⟩ := hp
 unfold zgl at p1 p2 p3 p4; refine zbj.2 (w33 _ _ _ _ ?_)
 simp only [t33, wpT, ha.len, hb.len, hc.len, zaa, zag, yag, zax]; unfold zfk; by_cases h1 : p.defs.length <= 64
 ·rw [if_neg (by omega)]
  by_cases h2 : p.clauses.length <= 400
  ·rw [if_neg (by omega)]
   by_cases h3 : p.tables.length <= 16
   ·rw [if_neg (by omega)]
    simp only [h1, h2, h3, decide_true, Bool.true_and]; have := zwz (a := a) rfl hc hb (by omega) (by omega) p7 p6 p.clauses.length 0 (by omega)
    rw [List.drop_zero] at this; exact this
   ·rw [if_pos (by omega)]; simp [h3]
  ·rw [if_pos (by omega)]; simp [h2]
 ·rw [if_pos (by omega)]; simp [h1]
end Go.Proofs
namespace Go.Am
structure XIns where
 op : Nat
 a : Int
 b : Int
def zsq (k : List Nat) : List (List Nat) -> Nat
 | [] => 0
 | x :: l => if k = x then 0 else zsq k l + 1
theorem zt4 {k : List Nat} : ∀ {l : List (List Nat)}, k ∉ l -> zsq k l = l.length
 | [], _ => rfl
 | x :: l, h => by
  unfold zsq; have h1 : k ≠ x := fun e => h (by rw [e]; exact yaz)
  rw [if_neg h1, zt4 (fun m => h (yas _ m))]; rfl
structure Nt where
 names : List (List Nat)
 consts : List zc8
section
variable (key : zc8 -> List Nat) (valid : zc8 -> Bool)
def Nt.name (s : Nt) (n : List Nat) : Nt := if n ∈ s.names then s else ⟨s.names ++ [n], s.consts⟩
def Nt.const (s : Nt) (v : zc8) : Nt := if key v ∈ s.consts.map key then s else ⟨s.names, s.consts ++ [v]⟩
def Nt.nameI (s : Nt) (n : List Nat) : Nat := zsq n s.names
def Nt.constI (s : Nt) (v : zc8) : Nat := zsq (key v) (s.consts.map key)
def zq8 (op : Nat) : Int × Int :=
 if op = 1 \/ op = 2 then (0, 0) else if op = 5 then (1, 1) else if op = 6 then (1, 2) else if op = 15 \/ op = 16 then (2, 2) else if op = 18 then (3, 3)
 else if op = 3 \/ op = 4 \/ op = 17 \/ op = 24 \/ op = 25 \/ op = 26 then (1, 1)
 else if (7 <= op /\ op <= 14) \/ op = 19 \/ op = 20 \/ op = 21 \/ op = 23 then (2, 2) else if op = 22 then (3, 3) else (1, 0)
def zdt (op : Nat) (v : zc8) (n : Nat) : Bool := (decide (op ≠ 1) || valid v) && decide ((zq8 op).1 <= n) && decide ((n : Int) <= (zq8 op).2)
def zev (op : Nat) (name : List Nat) (v : zc8) (n : Nat) (s : Nt) : Nt × XIns :=
 if op = 1 then (s.const key v, ⟨1, s.constI key v, 0⟩)
 else if op = 2 then (s, ⟨2, 0, 0⟩)
 else if op = 3 \/ op = 4 \/ op = 5 then (s.name name, ⟨op, s.nameI name, 0⟩)
 else if op = 6 then (s.name name, ⟨6, s.nameI name, n⟩)
 else if op = 21 \/ op = 22 \/ op = 23 then (s.name name, ⟨8, s.nameI name, op⟩)
 else if op = 19 then (s, ⟨7, 19, v.i⟩)
 else (s, ⟨7, op, 0⟩)
abbrev Tr1 := Nt -> Nat -> Nt × List XIns
def zf6 (n : Int) : zc8 := ⟨1, ⟨⟨false, []⟩, ⟨false, []⟩⟩, n⟩
def zqx (f g : Tr1) (skip : Nat) (truth : Int) : Tr1 := fun s p =>
 ((g (f s p).1 (p + (f s p).2.length + 1)).1.const key (zf6 truth),
  (f s p).2 ++ ⟨skip, ((p + (f s p).2.length + 1 + (g (f s p).1 (p + (f s p).2.length + 1)).2.length + 2 : Nat) : Int), 0⟩ ::
   ((g (f s p).1 (p + (f s p).2.length + 1)).2 ++ [⟨12, 0, 0⟩, ⟨9, ((p + (f s p).2.length + 1 + (g (f s p).1 (p + (f s p).2.length + 1)).2.length + 3 : Nat) : Int), 0⟩, ⟨1, (g (f s p).1 (p + (f s p).2.length + 1)).1.constI key (zf6 truth), 0⟩]))
def ifT (f g h : Tr1) : Tr1 := fun s p =>
 ((h (g (f s p).1 (p + (f s p).2.length + 1)).1 (p + (f s p).2.length + 1 + (g (f s p).1 (p + (f s p).2.length + 1)).2.length + 1)).1,
  (f s p).2 ++ ⟨10, ((p + (f s p).2.length + 1 + (g (f s p).1 (p + (f s p).2.length + 1)).2.length + 1 : Nat) : Int), 0⟩ ::
   ((g (f s p).1 (p + (f s p).2.length + 1)).2 ++ ⟨9, ((p + (f s p).2.length + 1 + (g (f s p).1 (p + (f s p).2.length + 1)).2.length + 1 + (h (g (f s p).1 (p + (f s p).2.length + 1)).1 (p + (f s p).2.length + 1 + (g (f s p).1 (p + (f s p).2.length + 1)).2.length + 1)).2.length : Nat) : Int), 0⟩ ::
    (h (g (f s p).1 (p + (f s p).2.length + 1)).1 (p + (f s p).2.length + 1 + (g (f s p).1 (p + (f s p).2.length + 1)).2.length + 1)).2))
def zib : List Tr1 -> Tr1
 | [], s, _ => (s, [])
 | f :: l, s, p => ((zib l (f s p).1 (p + (f s p).2.length)).1, (f s p).2 ++ (zib l (f s p).1 (p + (f s p).2.length)).2)
def zok (op : Nat) (name : List Nat) (v : zc8) (fs : List Tr1) : Tr1 := fun s p =>
 if zdt valid op v fs.length = false then (s, [⟨13, 0, 0⟩])
 else if op = 15 then (match fs with | f :: g :: _ => zqx key f g 10 0 s p | _ => (s, []))
 else if op = 16 then (match fs with | f :: g :: _ => zqx key f g 11 1 s p | _ => (s, []))
 else if op = 18 then (match fs with | f :: g :: h :: _ => ifT f g h s p | _ => (s, []))
 else ((zev key op name v fs.length (zib fs s p).1).1, (zib fs s p).2 ++ [(zev key op name v fs.length (zib fs s p).1).2])
mutual
def trX : zam -> Tr1
 | .mk op name v args => zok key valid op name v (trF args)
def trF : List zam -> List Tr1
 | [] => []
 | x :: l => trX x :: trF l
end
theorem zx1 : ∀ l : List zam, (trF key valid l).length = l.length
 | [] => rfl
 | x :: l => by simp [trF, zx1 l]
def trC : List za4 -> Nt -> Nt × List (List XIns × List XIns)
 | [], s => (s, [])
 | c :: l, s => ((trC l (trX key valid c.then_ (trX key valid c.when_ s 0).1 0).1).1, ((trX key valid c.when_ s 0).2, (trX key valid c.then_ (trX key valid c.when_ s 0).1 0).2) :: (trC l (trX key valid c.then_ (trX key valid c.when_ s 0).1 0).1).2)
end
def zcb (i : XIns) : Int :=
 if i.op = 3 \/ i.op = 4 \/ i.op = 5 \/ i.op = 12 then 1
 else if i.op = 6 then i.b
 else if i.op = 7 then (if i.a % 256 = 17 \/ i.a % 256 = 24 \/ i.a % 256 = 25 \/ i.a % 256 = 26 then 1 else 2)
 else if i.op = 8 then (if i.b = 22 then 3 else 2)
 else 0
inductive Stp (code : List XIns) (bit : Nat -> Bool) : Nat -> Int -> Nat -> Int -> Prop
 | jump {p q : Nat} {d : Int} {i : XIns} : code[p]? = some i -> i.op = 9 -> i.a = (q : Int) -> p < q -> q <= code.length -> Stp code bit p d q d
 | cond {p q : Nat} {d : Int} {i : XIns} : code[p]? = some i -> (i.op = 10 \/ i.op = 11) -> (if bit p = true then i.a else (p : Int) + 1) = (q : Int) -> p < q -> q <= code.length -> 1 <= d -> Stp code bit p d q (d - 1)
 | op {p : Nat} {d : Int} {i : XIns} : code[p]? = some i -> i.op < 9 \/ (11 < i.op /\ i.op < 255) -> zcb i <= d -> Stp code bit p d (p + 1) (d + (1 - zcb i))
inductive Way (code : List XIns) (bit : Nat -> Bool) : Nat -> Int -> Nat -> Int -> Prop
 | nil {p : Nat} {d : Int} : Way code bit p d p d
 | cons {p q r : Nat} {d e f : Int} : Stp code bit p d q e -> Way code bit q e r f -> Way code bit p d r f
theorem Way.trans {code : List XIns} {bit : Nat -> Bool} {p q r : Nat} {d e f : Int} (h : Way code bit p d q e) (k : Way code bit q e r f) : Way code bit p d r f := by
 induction h with
 | nil => exact k
 | cons s _ ih => exact .cons s (ih k)
def Seg (code : List XIns) (p : Nat) (l : List XIns) : Prop := ∀ (k : Nat) x, l[k]? = some x -> code[p + k]? = some x
theorem Seg.left {code : List XIns} {p : Nat} {l m : List XIns} (h : Seg code p (l ++ m)) : Seg code p l := fun k x hk => h k x (by rw [List.getElem?_append_left (yad.1 hk).1]; exact hk)
theorem Seg.right {code : List XIns} {p : Nat} {l m : List XIns} (h : Seg code p (l ++ m)) : Seg code (p + l.length) m := fun k x hk => by
 have := h (l.length + k) x (by rw [yaq (by omega)]; rw [show l.length + k - l.length = k by omega]; exact hk)
 rw [Nat.add_assoc]; exact this
theorem Seg.head {code : List XIns} {p : Nat} {x : XIns} {m : List XIns} (h : Seg code p (x :: m)) : code[p]? = some x /\ Seg code (p + 1) m := by
 refine ⟨h 0 x rfl, fun k y hk => ?_⟩
 have := h (k + 1) y (by simpa using hk)
 rw [show p + (k + 1) = p + 1 + k by omega] at this
 exact this
section
variable {key : zc8 -> List Nat} {valid : zc8 -> Bool} {code : List XIns} {bit : Nat -> Bool}
def z4b (code : List XIns) (bit : Nat -> Bool) (f : Tr1) : Prop := ∀ s p d, Seg code p (f s p).2 -> p + (f s p).2.length <= code.length -> 0 <= d -> Way code bit p d (p + (f s p).2.length) (d + 1)
theorem z1p : ∀ {fs : List Tr1}, (∀ f ∈ fs, z4b code bit f) -> ∀ s p d, Seg code p (zib fs s p).2 -> p + (zib fs s p).2.length <= code.length -> 0 <= d -> Way code bit p d (p + (zib fs s p).2.length) (d + fs.length)
 | [], _, s, p, d, _, _, _ => by simp only [zib, yay, Nat.add_zero]; rw [show d + ((0 : Nat) : Int) = d by omega]; exact .nil
 | f :: l, hg, s, p, d, h, hl, hd => by
  simp only [zib, yah] at h hl ⊢
  have h1 := hg f (by simp) s p d h.left (by omega) hd
  have h2 := z1p (fun g hg' => hg g (by simp [hg'])) (f s p).1 (p + (f s p).2.length) (d + 1) h.right (by omega) (by omega)
  have := h1.trans h2
  rw [yao, show d + ((l.length + 1 : Nat) : Int) = d + 1 + (l.length : Int) by omega, <- Nat.add_assoc]
  exact this
theorem zwm {f g : Tr1} {skip : Nat} {truth : Int} (hf : z4b code bit f) (hg : z4b code bit g) (hs : skip = 10 \/ skip = 11) : z4b code bit (zqx key f g skip truth) := by
 intro s p d h hl hd; simp only [zqx, yah, yao, yay] at h hl ⊢
 have a1 := hf s p d h.left (by omega) hd
 generalize hr : f s p = r at *
 generalize hq : g r.1 (p + r.2.length + 1) = q at *
 obtain ⟨b1, b2⟩ := h.right.head
 have c1 := b2.left
 have a2 := hg r.1 (p + r.2.length + 1) d (by rw [hq]; exact c1) (by rw [hq]; omega) hd
 rw [hq] at a2; obtain ⟨e1, e2⟩ := b2.right.head
 obtain ⟨e3, e4⟩ := e2.head
 obtain ⟨e5, _⟩ := e4.head
 have hjump : ∀ x : Int, Way code bit (p + r.2.length + 1 + q.2.length + 1) x (p + r.2.length + 1 + q.2.length + 1 + 1 + 1) x := fun x =>
  .cons (.jump e3 rfl (by simp; omega) (by omega) (by omega)) .nil
 have hconst : ∀ x : Int, 0 <= x -> Way code bit (p + r.2.length + 1 + q.2.length + 1 + 1) x (p + r.2.length + 1 + q.2.length + 1 + 1 + 1) (x + 1) := fun x hx => by
  have := Stp.op (bit := bit) (d := x) e5 (.inl (by simp)) (by simp [zcb]; omega)
  simp [zcb] at this
  exact .cons this .nil
 have fin : p + (r.2.length + (q.2.length + (0 + 1 + 1 + 1) + 1)) = p + r.2.length + 1 + q.2.length + 1 + 1 + 1 := by omega
 rw [fin]; refine a1.trans ?_
 by_cases hb : bit (p + r.2.length) = true
 ·have st : Stp code bit (p + r.2.length) (d + 1) (p + r.2.length + 1 + q.2.length + 1 + 1) (d + 1 - 1) := .cond b1 (by rcases hs with e | e <;> simp [e]) (by rw [if_pos hb]) (by omega) (by omega) (by omega)
  rw [show d + 1 - 1 = d by omega] at st; exact .cons st (hconst d hd)
 ·have st : Stp code bit (p + r.2.length) (d + 1) (p + r.2.length + 1) (d + 1 - 1) := .cond b1 (by rcases hs with e | e <;> simp [e]) (by rw [if_neg hb]; omega) (by omega) (by omega) (by omega)
  rw [show d + 1 - 1 = d by omega] at st; refine .cons st (a2.trans ?_)
  have s2 := Stp.op (bit := bit) (d := d + 1) e1 (.inr (by simp)) (by simp [zcb]; omega)
  simp only [zcb] at s2; simp at s2; exact .cons s2 (hjump _)
theorem zzha {f g h : Tr1} (hf : z4b code bit f) (hg : z4b code bit g) (hh : z4b code bit h) : z4b code bit (ifT f g h) := by
 intro s p d k hl hd; simp only [ifT, yah, yao] at k hl ⊢
 have a1 := hf s p d k.left (by omega) hd
 generalize hr : f s p = r at *
 generalize hq : g r.1 (p + r.2.length + 1) = q at *
 generalize hw : h q.1 (p + r.2.length + 1 + q.2.length + 1) = w at *
 obtain ⟨b1, b2⟩ := k.right.head
 have a2 := hg r.1 (p + r.2.length + 1) d (by rw [hq]; exact b2.left) (by rw [hq]; omega) hd
 rw [hq] at a2; obtain ⟨e1, e2⟩ := b2.right.head
 have a3 := hh q.1 (p + r.2.length + 1 + q.2.length + 1) d (by rw [hw]; exact e2) (by rw [hw]; omega) hd
 rw [hw] at a3; have fin : p + (r.2.length + (q.2.length + (w.2.length + 1) + 1)) = p + r.2.length + 1 + q.2.length + 1 + w.2.length := by omega
 rw [fin]; refine a1.trans ?_
 by_cases hb : bit (p + r.2.length) = true
 ·have st : Stp code bit (p + r.2.length) (d + 1) (p + r.2.length + 1 + q.2.length + 1) (d + 1 - 1) := .cond b1 (.inl rfl) (by rw [if_pos hb]) (by omega) (by omega) (by omega)
  rw [show d + 1 - 1 = d by omega] at st; exact .cons st a3
 ·have st : Stp code bit (p + r.2.length) (d + 1) (p + r.2.length + 1) (d + 1 - 1) := .cond b1 (.inl rfl) (by rw [if_neg hb]; omega) (by omega) (by omega) (by omega)
  rw [show d + 1 - 1 = d by omega] at st; refine .cons st (a2.trans (.cons (.jump e1 rfl rfl (by omega) (by omega)) .nil))
theorem z6y {op n : Nat} {name : List Nat} {v : zc8} {s : Nt} (h : zdt valid op v n = true) (h15 : op ≠ 15) (h16 : op ≠ 16) (h18 : op ≠ 18) (hop : op < 256) : zcb (zev key op name v n s).2 = n /\ ((zev key op name v n s).2.op < 9 \/ 11 < (zev key op name v n s).2.op /\ (zev key op name v n s).2.op < 255) := by
 unfold zdt at h; simp only [yac, decide_eq_true_eq] at h; obtain ⟨⟨_, h1⟩, h2⟩ := h
 unfold zq8 at h1 h2; unfold zev; by_cases c1 : op = 1
 ·subst c1; simp at h1 h2; subst h2; simp [zcb]
 ·rw [if_neg c1]
  by_cases c2 : op = 2
  ·subst c2; simp at h1 h2; subst h2; simp [zcb]
  ·rw [if_neg c2]
   rw [if_neg (by omega)] at h1 h2
   by_cases c3 : op = 3 \/ op = 4 \/ op = 5
   ·rw [if_pos c3]
    have hn : (n : Int) = 1 := by
     rcases c3 with e | e | e <;> subst e <;> simp at h1 h2 <;> omega
    refine ⟨?_, .inl (by simp; omega)⟩
    simp only [zcb]; rw [if_pos (by omega), hn]
   ·rw [if_neg c3]
    by_cases c6 : op = 6
    ·subst c6; simp [zcb]
    ·rw [if_neg c6]
     rw [if_neg (by omega), if_neg c6, if_neg (by omega), if_neg (by omega)] at h1 h2
     by_cases c8 : op = 21 \/ op = 22 \/ op = 23
     ·rw [if_pos c8]
      rw [if_neg (by omega)] at h1 h2
      refine ⟨?_, .inl (by simp)⟩
      simp only [zcb]; rw [if_neg (by omega), if_neg (by omega), if_neg (by omega), if_pos trivial]
      by_cases c22 : op = 22
      ·rw [if_neg (by omega), if_pos c22] at h1 h2
       rw [if_pos (by omega)]; simp at h1 h2; omega
      ·rw [if_pos (by omega)] at h1 h2
       rw [if_neg (by omega)]; simp at h1 h2; omega
     ·rw [if_neg c8]
      by_cases c19 : op = 19
      ·rw [if_pos c19]
       subst c19; simp at h1 h2; simp [zcb]; omega
      ·rw [if_neg c19]
       refine ⟨?_, .inl (by simp)⟩
       simp only [zcb]; rw [if_neg (by omega), if_neg (by omega), if_pos trivial]
       by_cases ca : op = 17 \/ op = 24 \/ op = 25 \/ op = 26
       ·rw [if_pos (by omega)] at h1 h2
        rw [if_pos (by omega)]; simp at h1 h2; omega
       ·rw [if_neg (by omega)] at h1 h2
        rw [if_neg (by omega)]
        by_cases cb : (7 <= op /\ op <= 14) \/ op = 19 \/ op = 20 \/ op = 21 \/ op = 23
        ·rw [if_pos cb] at h1 h2; simp at h1 h2; omega
        ·rw [if_neg cb, if_neg (by omega)] at h1 h2; simp at h1 h2; omega
theorem z3k {op : Nat} {name : List Nat} {v : zc8} {fs : List Tr1} (hop : op < 256) (hf : ∀ f ∈ fs, z4b code bit f) : z4b code bit (zok key valid op name v fs) := by
 intro s p d h hl hd; unfold zok at h hl ⊢
 by_cases h0 : zdt valid op v fs.length = false
 ·simp only [if_pos h0] at h hl ⊢
  obtain ⟨b1, _⟩ := h.head
  have s2 := Stp.op (bit := bit) (d := d) b1 (.inr (by simp)) (by simp [zcb]; omega)
  simp [zcb] at s2
  exact .cons s2 .nil
 ·simp only [if_neg h0] at h hl ⊢
  have h0 : zdt valid op v fs.length = true := by simpa using h0
  have hn := h0
  unfold zdt at hn; simp only [yac, decide_eq_true_eq] at hn; by_cases h15 : op = 15
  ·simp only [if_pos h15] at h hl ⊢
   subst h15; have : fs.length = 2 := by have h1 := hn.1.2; have h2 := hn.2; simp [zq8] at h1 h2; omega
   match fs, this, hf with
   | [f, g], _, hf => exact zwm (hf f (by simp)) (hf g (by simp)) (.inl rfl) s p d h hl hd
  ·simp only [if_neg h15] at h hl ⊢
   by_cases h16 : op = 16
   ·simp only [if_pos h16] at h hl ⊢
    subst h16; have : fs.length = 2 := by have h1 := hn.1.2; have h2 := hn.2; simp [zq8] at h1 h2; omega
    match fs, this, hf with
    | [f, g], _, hf => exact zwm (hf f (by simp)) (hf g (by simp)) (.inr rfl) s p d h hl hd
   ·simp only [if_neg h16] at h hl ⊢
    by_cases h18 : op = 18
    ·simp only [if_pos h18] at h hl ⊢
     subst h18; have : fs.length = 3 := by have h1 := hn.1.2; have h2 := hn.2; simp [zq8] at h1 h2; omega
     match fs, this, hf with
     | [f, g, k], _, hf => exact zzha (hf f (by simp)) (hf g (by simp)) (hf k (by simp)) s p d h hl hd
    ·simp only [if_neg h18] at h hl ⊢
     simp only [yah, yao, yay] at hl ⊢
     have a1 := z1p hf s p d h.left (by omega) hd
     obtain ⟨b1, _⟩ := h.right.head
     obtain ⟨q1, q2⟩ := z6y (key := key) (name := name) (s := (zib fs s p).1) h0 h15 h16 h18 hop
     have s2 := Stp.op (bit := bit) (d := d + fs.length) b1 q2 (by rw [q1]; omega)
     rw [q1] at s2; rw [show d + (fs.length : Int) + (1 - (fs.length : Int)) = d + 1 by omega] at s2
     have := a1.trans (.cons s2 .nil)
     rw [show p + ((zib fs s p).2.length + (0 + 1)) = p + (zib fs s p).2.length + 1 by omega]
     exact this
mutual
theorem zz5 : ∀ (x : zam), x.fit -> z4b code bit (trX key valid x)
 | .mk op name v args, h => by
  unfold zam.fit at h; unfold trX; exact z3k h.1 (zz7 args h.2.2.2.2.2)
theorem zz7 : ∀ (l : List zam), zam.fits l -> ∀ f ∈ trF key valid l, z4b code bit f
 | [], _, f, hf => by unfold trF at hf; cases hf
 | x :: l, h, f, hf => by
  unfold zam.fits at h; unfold trF at hf; rcases yat.1 hf with rfl | hf
  ·exact zz5 x h.1
  ·exact zz7 l h.2 f hf
end
theorem ends {x : zam} (hx : x.fit) (s : Nt) (bit : Nat -> Bool) : Way (trX key valid x s 0).2 bit 0 0 (trX key valid x s 0).2.length 1 := by
 have := zz5 (code := (trX key valid x s 0).2) (bit := bit) x hx s 0 0 (fun k y h => by rw [yax]; exact h) (by omega) (by omega)
 rw [yax] at this; exact this
end
end Go.Am
namespace Go.Am
open Go Go.RowKit
structure Thg where
 blks : List Nat
 ok : Tr zal -> Tr zal -> Prop
 keep : ∀ {tf t tf' t' : Tr zal}, ok tf t -> TLe tf tf' -> (∀ k ∈ blks, t'.get k = t.get k /\ tf'.get k = none) -> ok tf' t'
 live : ∀ {tf t : Tr zal}, ok tf t -> ∀ k ∈ blks, ∃ y, t.get k = some y
structure Objs (base : Nat) (tf t : Tr zal) (l : List Thg) : Prop where
 tle : TLe tf t
 nodup : (l.flatMap Thg.blks).Nodup
 ok : ∀ o ∈ l, o.ok tf t
 low : ∀ k ∈ l.flatMap Thg.blks, base <= k /\ tf.get k = none
def zik (v : zab) : List Nat := match v with | .slice b _ _ _ => [b] | _ => []
theorem zfx {v : zab} {k : Nat} : k ∈ zik v ↔ zrs v k := by
 unfold zik zrs; split
 ·rename_i b o n c
  constructor
  ·intro h; rw [List.mem_singleton] at h; subst h; exact ⟨_, _, _, rfl⟩
  ·rintro ⟨o', n', c', e⟩; cases e; simp
 ·rename_i h
  constructor
  ·intro h; cases h
  ·rintro ⟨o, n, c, e⟩; exact absurd e (h _ _ _ _)
def zfo (b : Nat) (lo : Option Nat) (cs : List zab) : Thg where
 blks := [b]
 ok := fun _ t => Cel t b lo cs
 keep := fun h _ k => h.off (k b (by simp)).1
 live := fun h k hk => by rw [List.mem_singleton] at hk; subst hk; obtain ⟨c, hc, _⟩ := h; exact ⟨_, hc⟩
def zfw (b : Nat) (l : List (zab × zab)) : Thg where
 blks := [b]
 ok := fun _ t => t.get b = some (.map l)
 keep := fun h _ k => by rw [(k b (by simp)).1]; exact h
 live := fun h k hk => by rw [List.mem_singleton] at hk; subst hk; exact ⟨_, h⟩
def zaq (base sz : Nat) (l : List D) (v : zab) : Thg where
 blks := zik v
 ok := fun tf t => Loose base tf t sz l v
 keep := fun h hf k => h.keep hf fun b hb => k b (zfx.2 hb)
 live := fun h k hk => (h.none (zfx.1 hk)).2.2
section
variable {base : Nat} {tf t : Tr zal} {l A B : List Thg} {o o' : Thg}
theorem Objs.live (h : Objs base tf t l) {k : Nat} (hk : k ∈ l.flatMap Thg.blks) : ∃ y, t.get k = some y := by
 obtain ⟨o, ho, hk⟩ := List.mem_flatMap.1 hk
 exact o.live (h.ok o ho) k hk
theorem Objs.fresh (h : Objs base tf t l) {n : Nat} (hn : t.get n = none) : n ∉ l.flatMap Thg.blks := by
 intro hm; obtain ⟨y, hy⟩ := h.live hm
 rw [hn] at hy; cases hy
theorem Objs.tfn (h : Objs base tf t l) {n : Nat} (hn : t.get n = none) : tf.get n = none := by
 cases hq : tf.get n with
 | none => rfl
 | some y => have := h.tle _ _ hq; rw [hn] at this; cases this
theorem Objs.keep (h : Objs base tf t l) {tf' t' : Tr zal} (hf : TLe tf tf') (ht : TLe tf' t') (hk : ∀ k ∈ l.flatMap Thg.blks, t'.get k = t.get k /\ tf'.get k = none) : Objs base tf' t' l :=
 ⟨ht, h.nodup, fun o ho => o.keep (h.ok o ho) hf fun k hk' => hk k (List.mem_flatMap.2 ⟨o, ho, hk'⟩), fun k hk' => ⟨(h.low k hk').1, (hk k hk').2⟩⟩
theorem Objs.junk (h : Objs base tf t l) {n : Nat} {t' : Tr zal} (hn : t.get n = none) (ho : Off n t t') : Objs base tf t' l :=
 h.keep (TLe.refl _) (h.tle.off (h.tfn hn) ho) fun k hk => ⟨ho k (fun e : k = n => h.fresh hn (e ▸ hk)), (h.low k hk).2⟩
theorem Objs.other (h : Objs base tf t l) {n : Nat} {t' : Tr zal} (hn : n ∉ l.flatMap Thg.blks) (hf : tf.get n = none) (ho : Off n t t') : Objs base tf t' l :=
 h.keep (TLe.refl _) (h.tle.off hf ho) fun k hk => ⟨ho k (fun e : k = n => hn (e ▸ hk)), (h.low k hk).2⟩
theorem Objs.froze (h : Objs base tf t l) {n : Nat} {y : zal} (hn : n ∉ l.flatMap Thg.blks) (hy : t.get n = some y) (hf : tf.get n = none) : Objs base (tf.set n y) t l /\ TLe tf (tf.set n y) := by
 have h1 := (zc9 (t := tf) hf y).1
 refine ⟨h.keep h1 (fun k u hk => ?_) fun k hk => ⟨rfl, ?_⟩, h1⟩
 ·rw [Tr.get_set] at hk
  split at hk
  ·rename_i e; subst e; cases hk; exact hy
  ·exact h.tle _ _ hk
 ·rw [Tr.get_set, if_neg (fun e : k = n => hn (e ▸ hk))]; exact (h.low k hk).2
theorem zh5 : (A ++ o :: B).flatMap Thg.blks = A.flatMap Thg.blks ++ (o.blks ++ B.flatMap Thg.blks) := by simp
theorem Objs.upd (h : Objs base tf t (A ++ o :: B)) {t' : Tr zal} (hk : ∀ k, k ∉ o.blks -> k ∉ o'.blks -> t'.get k = t.get k) (hn : ∀ k ∈ o'.blks, k ∈ o.blks \/ (t.get k = none /\ base <= k)) (hok : o'.ok tf t') (hnd : o'.blks.Nodup) (ht : TLe tf t') : Objs base tf t' (A ++ o' :: B) := by
 have hd := h.nodup
 rw [zh5] at hd; rw [List.nodup_append] at hd; obtain ⟨d1, d2, d3⟩ := hd
 rw [List.nodup_append] at d2; obtain ⟨d4, d5, d6⟩ := d2
 have oth : ∀ k, k ∈ A.flatMap Thg.blks \/ k ∈ B.flatMap Thg.blks -> k ∉ o.blks /\ k ∉ o'.blks /\ t'.get k = t.get k /\ base <= k /\ tf.get k = none := by
  intro k hk'; have hm : k ∈ (A ++ o :: B).flatMap Thg.blks := by rw [zh5]; simp only [List.mem_append]; rcases hk' with h | h <;> simp [h]
  have h1 : k ∉ o.blks := fun hc => by
   rcases hk' with h' | h'
   ·exact d3 k h' k (by simp [hc]) rfl
   ·exact d6 k hc k h' rfl
  have h2 : k ∉ o'.blks := fun hc => by
   rcases hn k hc with h' | h'
   ·exact h1 h'
   ·obtain ⟨y, hy⟩ := h.live hm
    rw [h'.1] at hy; cases hy
  exact ⟨h1, h2, hk k h1 h2, h.low k hm⟩
 have mem : ∀ k, k ∈ (A ++ o' :: B).flatMap Thg.blks -> (k ∈ A.flatMap Thg.blks \/ k ∈ B.flatMap Thg.blks) \/ k ∈ o'.blks := by
  intro k hk'; rw [zh5] at hk'
  simp only [List.mem_append] at hk'
  rcases hk' with h | h | h
  ·exact .inl (.inl h)
  ·exact .inr h
  ·exact .inl (.inr h)
 refine ⟨ht, ?_, fun p hp => ?_, fun k hk' => ?_⟩
 ·rw [zh5, List.nodup_append]
  refine ⟨d1, ?_, fun x hx y hy e => ?_⟩
  ·rw [List.nodup_append]
   exact ⟨hnd, d5, fun x hx y hy e => (oth y (.inr hy)).2.1 (e ▸ hx)⟩
  ·subst e
   rcases List.mem_append.1 hy with h' | h'
   ·exact (oth x (.inl hx)).2.1 h'
   ·exact d3 x hx x (by simp [h']) rfl
 ·have hp' : p ∈ A \/ p = o' \/ p ∈ B := by simpa using hp
  rcases hp' with h' | h' | h'
  ·exact p.keep (h.ok p (by simp [h'])) (TLe.refl _) fun k hk' => by
    obtain ⟨_, _, e, _, f⟩ := oth k (.inl (List.mem_flatMap.2 ⟨p, h', hk'⟩)); exact ⟨e, f⟩
  ·subst h'; exact hok
  ·exact p.keep (h.ok p (by simp [h'])) (TLe.refl _) fun k hk' => by
    obtain ⟨_, _, e, _, f⟩ := oth k (.inr (List.mem_flatMap.2 ⟨p, h', hk'⟩)); exact ⟨e, f⟩
 ·rcases mem k hk' with h' | h'
  ·obtain ⟨_, _, _, e, f⟩ := oth k h'; exact ⟨e, f⟩
  ·rcases hn k h' with h'' | h''
   ·exact h.low k (by rw [zh5]; simp [h''])
   ·exact ⟨h''.2, h.tfn h''.1⟩
def zzb2 : Thg := ⟨[], fun _ _ => True, fun _ _ _ => trivial, fun _ _ h => by cases h⟩
theorem Objs.add (h : Objs base tf t (A ++ B)) {t' : Tr zal} (hk : ∀ k, k ∉ o'.blks -> t'.get k = t.get k) (hn : ∀ k ∈ o'.blks, t.get k = none /\ base <= k) (hok : o'.ok tf t') (hnd : o'.blks.Nodup) (ht : TLe tf t') : Objs base tf t' (A ++ o' :: B) := by
 have e : Objs base tf t (A ++ zzb2 :: B) := by
  have hm : (A ++ zzb2 :: B).flatMap Thg.blks = (A ++ B).flatMap Thg.blks := by simp [zzb2]
  refine ⟨h.tle, by rw [hm]; exact h.nodup, fun o ho => ?_, fun k hk => h.low k (by rw [hm] at hk; exact hk)⟩
  have : o ∈ A \/ o = zzb2 \/ o ∈ B := by simpa using ho
  rcases this with h' | h' | h'
  ·exact h.ok o (by simp [h'])
  ·subst h'; trivial
  ·exact h.ok o (by simp [h'])
 exact e.upd (fun k _ h2 => hk k h2) (fun k hk => .inr (hn k hk)) hok hnd ht
theorem Objs.drop (h : Objs base tf t (A ++ o :: B)) : Objs base tf t (A ++ B) := by
 have hd := h.nodup
 rw [zh5] at hd; refine ⟨h.tle, ?_, fun p hp => h.ok p (by rcases List.mem_append.1 hp with h | h <;> simp [h]), fun k hk => h.low k (by rw [zh5]; rw [List.flatMap_append] at hk; rcases List.mem_append.1 hk with h | h <;> simp [h])⟩
 rw [List.flatMap_append]; rw [List.nodup_append] at hd ⊢
 obtain ⟨d1, d2, d3⟩ := hd
 rw [List.nodup_append] at d2; exact ⟨d1, d2.2.1, fun x hx y hy e => d3 x hx y (by simp [hy]) e⟩
theorem Objs.notin (h : Objs base tf t (A ++ o :: B)) {k : Nat} (hk : k ∈ o.blks) : k ∉ (A ++ B).flatMap Thg.blks := by
 have hd := h.nodup
 rw [zh5, List.nodup_append] at hd; obtain ⟨d1, d2, d3⟩ := hd
 rw [List.nodup_append] at d2; rw [List.flatMap_append]; intro hm; rcases List.mem_append.1 hm with h' | h'
 ·exact d3 k h' k (by simp [hk]) rfl
 ·exact d2.2.2 k hk k h' rfl
theorem Objs.freezeL {sz : Nat} {m : List D} {v : zab} (h : Objs base tf t (A ++ zaq base sz m v :: B)) : ∃ tf', TLe tf tf' /\ Objs base tf' t (A ++ B) /\ RSl tf' sz m v := by
 have hl : Loose base tf t sz m v := h.ok (zaq base sz m v) (by simp)
 obtain ⟨tf', h1, h2, h3, h4⟩ := hl.freeze h.tle
 refine ⟨tf', h1, h.drop.keep h1 h2 fun k hk => ⟨rfl, ?_⟩, h3⟩
 have hb : ¬ zrs v k := fun hb => h.notin (o := zaq base sz m v) (zfx.2 hb) hk
 rw [h4 k hb]; exact (h.drop.low k hk).2
end
end Go.Am
namespace Go.Proofs
open Go Go.Am
variable [zcm]
variable {t tf : Tr zal}
def _root_.Go.Am.XIns.d (i : XIns) : D := .st [.int .u8 i.op, .int .i64 i.a, .int .i64 i.b]
def _root_.Go.Am.XIns.cells (i : XIns) : List zab := [.int .u8 i.op, .int .i64 i.a, .int .i64 i.b]
theorem z0v {i : XIns} {cs : List zab} : RD t i.d cs ↔ cs = i.cells := by
 unfold XIns.d XIns.cells; simp only [zii, zbc, zbr, zgm]; constructor
 ·rintro ⟨cl, rfl, c, r, rfl, rfl, c', r', rfl, rfl, c'', r'', rfl, rfl, rfl⟩; rfl
 ·rintro rfl; exact ⟨[[.int .u8 i.op], [.int .i64 i.a], [.int .i64 i.b]], rfl, _, _, rfl, rfl, _, _, rfl, rfl, _, _, rfl, rfl, rfl⟩
def zaz : Nat -> List (List Nat) -> List (zab × zab)
 | _, [] => []
 | i, k :: l => (.str k, .int .i64 (i : Int)) :: zaz (i + 1) l
theorem zwh {a b : List Nat} : zwi (.str a) (.str b) = some (decide (a = b)) := by
 unfold zwi; simp only [zab.asIntK, zab.asStr, zac]; congr 1
 cases h : zkf a b with
 | true => rw [decide_eq_true ((zf2 _ _).1 h)]
 | false => rw [decide_eq_false (fun e => by rw [(zf2 _ _).2 e] at h; cases h)]
theorem zsy {k : List Nat} : ∀ (l : List (List Nat)) (i : Nat), zug (.str k) (zaz i l) = some (if k ∈ l then some (.int .i64 ((i + zsq k l : Nat) : Int)) else none)
 | [], i => by simp [zaz, zug]
 | x :: l, i => by
  unfold zaz zug zsq; rw [zwh, zac]; by_cases h : k = x
  ·simp [h]
  ·simp only [h, decide_false, cond_false, if_false, yat, false_or]
   rw [zsy l (i + 1)]
   rw [show i + 1 + zsq k l = i + (zsq k l + 1) by omega]
theorem zn9 {k : List Nat} : ∀ (l : List (List Nat)) (i : Nat), k ∉ l -> zja (.str k) (.int .i64 ((i + l.length : Nat) : Int)) (zaz i l) = some (zaz i (l ++ [k]))
 | [], i, _ => by simp [zaz, zja]
 | x :: l, i, h => by
  simp only [List.cons_append, zaz]; unfold zja; rw [zwh, zac]; have h1 : k ≠ x := fun e => h (e ▸ yaz)
  have := zn9 l (i + 1) (fun m => h (yas _ m))
  simp only [h1, decide_false, cond_false]; rw [yao, show i + (l.length + 1) = i + 1 + l.length by omega, this, zac]
structure TR where
 b : Nat
 pl : List zab
 vn : zab
 vc : zab
 vw : zab
 vt : zab
 vk : zab
 m1 : Nat
 m2 : Nat
def TR.kp (r : TR) : List zab × zab × zab := (r.pl, r.vw, r.vt)
structure XSt where
 names : List (List Nat)
 consts : List zc8
 ws : List D
 ts : List D
 code : List XIns
abbrev bs : Nat := C19.base
def TR.cells (r : TR) : List zab := r.pl ++ [r.vn, r.vc, r.vw, r.vt, .map r.m1, .map r.m2, r.vk]
def tsL (key : zc8 -> List Nat) (r : TR) (s : XSt) : List Thg :=
 [zfo r.b none r.cells, zfw r.m1 (zaz 0 s.names), zfw r.m2 (zaz 0 (s.consts.map key)), zaq C19.base 1 (s.names.map D.str) r.vn, zaq C19.base 6 (s.consts.map zc8.d) r.vc, zaq C19.base 1 s.ws r.vw, zaq C19.base 1 s.ts r.vt, zaq C19.base 3 (s.code.map XIns.d) r.vk]
structure TS (key : zc8 -> List Nat) (tf t : Tr zal) (r : TR) (s : XSt) : Prop where
 pl : r.pl.length = 4
 os : Objs C19.base tf t (tsL key r s)
section
variable {key : zc8 -> List Nat} {r : TR} {s : XSt}
theorem TS.cel (h : TS key tf t r s) : Cel t r.b none r.cells := h.os.ok (zfo r.b none r.cells) (by simp [tsL])
theorem TS.map1 (h : TS key tf t r s) : t.get r.m1 = some (.map (zaz 0 s.names)) := h.os.ok (zfw r.m1 (zaz 0 s.names)) (by simp [tsL])
theorem TS.map2 (h : TS key tf t r s) : t.get r.m2 = some (.map (zaz 0 (s.consts.map key))) := h.os.ok (zfw r.m2 (zaz 0 (s.consts.map key))) (by simp [tsL])
theorem TS.ln (h : TS key tf t r s) : Loose C19.base tf t 1 (s.names.map D.str) r.vn := h.os.ok (zaq C19.base 1 (s.names.map D.str) r.vn) (by simp [tsL])
theorem TS.lc (h : TS key tf t r s) : Loose C19.base tf t 6 (s.consts.map zc8.d) r.vc := h.os.ok (zaq C19.base 6 (s.consts.map zc8.d) r.vc) (by simp [tsL])
theorem TS.lk (h : TS key tf t r s) : Loose C19.base tf t 3 (s.code.map XIns.d) r.vk := h.os.ok (zaq C19.base 3 (s.code.map XIns.d) r.vk) (by simp [tsL])
theorem TS.baseB (h : TS key tf t r s) : C19.base <= r.b /\ tf.get r.b = none := h.os.low r.b (by simp [tsL, zfo])
theorem TS.inB {key : zc8 -> List Nat} {r : TR} {s : XSt} : r.b ∈ (tsL key r s).flatMap Thg.blks := by simp [tsL, zfo]
theorem TS.junk (h : TS key tf t r s) {n : Nat} {t' : Tr zal} (hn : t.get n = none) (ho : Off n t t') : TS key tf t' r s := ⟨h.pl, h.os.junk hn ho⟩
theorem TS.other (h : TS key tf t r s) {n : Nat} {t' : Tr zal} (hn : n ∉ (tsL key r s).flatMap Thg.blks) (hf : tf.get n = none) (ho : Off n t t') : TS key tf t' r s := ⟨h.pl, h.os.other hn hf ho⟩
theorem TS.fresh (h : TS key tf t r s) {n : Nat} (hn : t.get n = none) : n ∉ (tsL key r s).flatMap Thg.blks := h.os.fresh hn
theorem TS.froze (h : TS key tf t r s) {n : Nat} {y : zal} (hn : n ∉ (tsL key r s).flatMap Thg.blks) (hy : t.get n = some y) (hf : tf.get n = none) : TS key (tf.set n y) t r s /\ TLe tf (tf.set n y) := ⟨⟨h.pl, (h.os.froze hn hy hf).1⟩, (h.os.froze hn hy hf).2⟩
theorem zp6 {p : List zab} (h : p.length = 4) {l : List zab} {k : Nat} : (p ++ l)[4 + k]? = l[k]? := by
 rw [yaq (by omega)]; congr 1; omega
theorem zob {p : List zab} (h : p.length = 4) {l : List zab} {k : Nat} {v : zab} : (p ++ l).set (4 + k) v = p ++ l.set k v := by
 rw [List.set_append_right _ _ (by omega)]; congr 1; congr 1; omega
theorem TS.ldN (h : TS key tf t r s) : zao C19 30 ⟨0, t⟩ (.ptr r.b 4) = some r.vn := h.cel.load1 ty30 rfl (zp6 (k := 0) h.pl)
theorem TS.ldC (h : TS key tf t r s) : zao C19 31 ⟨0, t⟩ (.ptr r.b 5) = some r.vc := h.cel.load1 ty31 rfl (zp6 (k := 1) h.pl)
theorem TS.ldM1 (h : TS key tf t r s) : zao C19 107 ⟨0, t⟩ (.ptr r.b 8) = some (.map r.m1) := h.cel.load1 zzay rfl (zp6 (k := 4) h.pl)
theorem TS.ldM2 (h : TS key tf t r s) : zao C19 107 ⟨0, t⟩ (.ptr r.b 9) = some (.map r.m2) := h.cel.load1 zzay rfl (zp6 (k := 5) h.pl)
theorem TS.ldK (h : TS key tf t r s) : zao C19 37 ⟨0, t⟩ (.ptr r.b 10) = some r.vk := h.cel.load1 zzaw rfl (zp6 (k := 6) h.pl)
end
theorem znu {b : Nat} : zai C19 109 3 (.ptr b 0) = some (.ptr b 10) := by kernel_rfl
theorem zgd {b : Nat} : zai C19 109 0 (.ptr b 0) = some (.ptr b 0) := by kernel_rfl
theorem zzhj {b : Nat} : zai C19 109 1 (.ptr b 0) = some (.ptr b 8) := by kernel_rfl
theorem zzhi {b : Nat} : zai C19 109 2 (.ptr b 0) = some (.ptr b 9) := by kernel_rfl
theorem zzfc {b : Nat} : zai C19 34 1 (.ptr b 0) = some (.ptr b 4) := by kernel_rfl
theorem zws {b : Nat} : zai C19 34 2 (.ptr b 0) = some (.ptr b 5) := by kernel_rfl
theorem zzfb {b : Nat} : zai C19 34 3 (.ptr b 0) = some (.ptr b 6) := by kernel_rfl
theorem z86 {b : Nat} : zai C19 34 4 (.ptr b 0) = some (.ptr b 7) := by kernel_rfl
theorem zc5 {b o : Nat} : zri (.ptr b o) = some (.ptr b o) := by kernel_rfl
theorem z0m {d b o : Nat} : same d (.ptr b o) (.ptr b o) = true := by
 have e : ∀ n, Nat.beq n n = true := Nat.beq_refl
 cases d <;> (unfold Am.same; simp only [e, Bool.and_self])
end Go.Proofs
namespace Go.Proofs
open Go Go.Am
variable [zcm]
variable {t tf : Tr zal} {key : zc8 -> List Nat} {r : TR} {s : XSt}
theorem el37 : zxl C19 37 54 3 := ⟨⟨_, zzaw, rfl, rfl⟩, ⟨_, ty54, rfl, rfl, by decide, by decide⟩⟩
theorem z7r {n : Nat} {i : XIns} (hn : t.get n = none) : ∃ t', zav C19 37 1 [(0, .agg [.int .u8 i.op, .int .i64 i.a, .int .i64 i.b])] ⟨n, t⟩ = some (.slice n 0 1 1, ⟨n + 1, t'⟩) /\ zho t' 3 (.slice n 0 1 1) [i.cells] /\ TLe t t' /\ Off n t t' :=
 zhg (C := C19) (T := 37) (el := 54) (sz := 3) (n := 1) (cl := [i.cells]) zzaw rfl ty54 rfl rfl (by decide) rfl (fun k cs hk => by
  cases k with
  | zero => simp at hk; subst hk; rfl
  | succ k => simp at hk) rfl hn
def Tgt (tf : Tr zal) (b : Nat) (v : zab) (i : Nat) : Prop := ∃ n m, v = .func (.func 232) [] [.ptr n 0, .ptr m 0] /\ Cel tf n none [.ptr b 0] /\ Cel tf m none [.int .i64 (i : Int)]
theorem Tgt.mono {tf' : Tr zal} {b i : Nat} {v : zab} (h : Tgt tf b v i) (hf : TLe tf tf') : Tgt tf' b v i := by
 obtain ⟨n, m, rfl, ⟨c, h1, h2⟩, ⟨d, h3, h4⟩⟩ := h
 exact ⟨n, m, rfl, ⟨c, hf _ _ h1, h2⟩, ⟨d, hf _ _ h3, h4⟩⟩
theorem zor {i : XIns} {Q : zaw} (h : TS key tf t r s) (hl : s.code.length < 300000)
  (hQ : ∀ tf' t' r' v, TLe tf tf' -> r'.b = r.b -> r'.kp = r.kp -> TS key tf' t' r' ⟨s.names, s.consts, s.ws, s.ts, s.code ++ [i]⟩ -> Tgt tf' r.b v s.code.length -> Q v t') : Wc C19 F 168 [.ptr r.b 0, .int .u8 i.op, .int .i64 i.a, .int .i64 i.b] t Q := by
 refine w168 _ _ _ _ ?_
 simp only [t168, wpT]; intro n0 hn0 hb0; obtain ⟨t1, a1, a2, a3, a4⟩ := z9x (v := .ptr r.b 0) hn0
 have h1 := h.junk hn0 a4
 have a2 : Cel t1 n0 none [.ptr r.b 0] := a2
 have l0 : ∀ t', t'.get n0 = t1.get n0 -> zao C19 106 ⟨0, t'⟩ (.ptr n0 0) = some (.ptr r.b 0) := fun t' e => (a2.off e).load1 ty106 rfl rfl
 rw [a1, zaa, l0 t1 rfl, zaa, zc5, zaa, znu, zaa, h1.ldK, zaa, h1.lk.len, zaa, yag, zag, zaa]; intro n1 hn1 hb1; obtain ⟨t2, b1, b2, b3, b4⟩ := zq9 (C := C19) ty3 hn1
 have h2 := h1.junk hn1 b4
 have ne01 : n0 ≠ n1 := by
  intro e; subst e; obtain ⟨c, hc, _⟩ := a2
  rw [hc] at hn1; cases hn1
 rw [b1, zaa]; intro m2 _ _; obtain ⟨t3, c1, c2, c3⟩ := b2.store1 (C := C19) hb1 (j := 0) (v := .int .i64 (s.code.length : Int)) ty3 rfl rfl rfl (by decide)
 have c2 : Cel t3 n1 none [.int .i64 (s.code.length : Int)] := c2
 have h3 : TS key tf t3 r s := h2.other (h1.fresh hn1) (h1.os.tfn hn1) c3
 have e03 : t3.get n0 = t1.get n0 := by rw [c3 n0 ne01, b4 n0 ne01]
 rw [c1, zaa, l0 t3 e03, zaa]; simp only [l0 t3 e03, zaa, zc5, znu, h3.ldK, if_true]; intro n3 hn3 hb3; obtain ⟨t4, d1, d2, d3, d4⟩ := z7r (i := i) hn3
 have h4 := h3.junk hn3 d4
 have ne03 : n0 ≠ n3 := by
  intro e; subst e; obtain ⟨c, hc, _⟩ := a2
  rw [e03, hc] at hn3; cases hn3
 have ne13 : n1 ≠ n3 := by
  intro e; subst e; obtain ⟨c, hc, _⟩ := c2
  rw [hc] at hn3; cases hn3
 have e04 : t4.get n0 = t1.get n0 := by rw [d4 n0 ne03, e03]
 rw [d1, zaa]; simp only [l0 t4 e04, zaa, z0m, if_true, h4.ldK, h4.lk.same]; intro n4 hn4 hb4; obtain ⟨t5, f1, f2, f3, f4⟩ := ze3 (C := C19) el37 (m := [i.d]) h4.lk d2 (by
  rw [zbc]; exact ⟨_, _, rfl, z0v.2 rfl, zbr.2 rfl⟩) (by
  intro a ha; simp only [XIns.cells, List.flatten_cons, List.flatten_nil, ybe, yat, List.not_mem_nil, or_false] at ha; rcases ha with rfl | rfl | rfl <;> rfl) (by simp) (by simp; omega) hn4 hb4 h4.os.tle
 have ne04 : n0 ≠ n4 := by
  intro e; subst e; obtain ⟨c, hc, _⟩ := a2
  rw [e04, hc] at hn4; cases hn4
 have c24 : Cel t4 n1 none [.int .i64 (s.code.length : Int)] := c2.off (d4 n1 ne13)
 have ne14 : n1 ≠ n4 := by
  intro e; subst e; obtain ⟨c, hc, _⟩ := c24
  rw [hc] at hn4; cases hn4
 have nin0 := h.fresh hn0
 have nin1 := h1.fresh hn1
 have inK : ∀ k, zrs r.vk k -> k ∈ (tsL key r s).flatMap Thg.blks := fun k hk => by
  have := zfx.2 hk
  simp [tsL, zfo, zfw, zaq, this]
 have e05 : t5.get n0 = t1.get n0 := by rw [f4 n0 ne04 (fun e => nin0 (inK _ e)), e04]
 have e15 : t5.get n1 = t3.get n1 := by rw [f4 n1 ne14 (fun e => nin1 (inK _ e)), d4 n1 ne13]
 rw [f1, zaa]; dsimp only
 rw [l0 t5 e05, zaa, if_pos z0m]; intro m6 _ _; have ec : (s.code.map XIns.d).length + [i.d].length = (s.code ++ [i]).length := by simp
 have hd : s.code.map XIns.d ++ [i.d] = (s.code ++ [i]).map XIns.d := by simp
 rw [ec, hd] at f2; have o5 : Objs C19.base tf t5 ([zfo r.b none r.cells, zfw r.m1 (zaz 0 s.names), zfw r.m2 (zaz 0 (s.consts.map key)), zaq C19.base 1 (s.names.map D.str) r.vn, zaq C19.base 6 (s.consts.map zc8.d) r.vc, zaq C19.base 1 s.ws r.vw, zaq C19.base 1 s.ts r.vt] ++ zaq C19.base 3 ((s.code ++ [i]).map XIns.d) (.slice n4 0 (s.code ++ [i]).length (s.code ++ [i]).length) :: []) := by
  refine Objs.upd (o := zaq C19.base 3 (s.code.map XIns.d) r.vk) h4.os (fun k k1 k2 => f4 k ?_ (fun e => k1 (zfx.2 e))) (fun k hk => ?_) f2 (by simp [zaq, zik]) f3
  ·intro e; subst e; exact k2 (by simp [zaq, zik])
  ·have : k = n4 := by simpa [zaq, zik] using hk
   subst this; exact .inr ⟨hn4, hb4⟩
 have cel5 : Cel t5 r.b none r.cells := o5.ok (zfo r.b none r.cells) (by simp)
 have hlen : r.cells.length = 11 := by simp [TR.cells, h.pl]
 obtain ⟨t6, g1, g2, g3⟩ := cel5.store1 (C := C19) h.baseB.1 (j := 10) (v := .slice n4 0 (s.code ++ [i]).length (s.code ++ [i]).length) zzaw rfl rfl rfl (by omega)
 rw [ec, g1, zaa]; have es : r.cells.set 10 (.slice n4 0 (s.code ++ [i]).length (s.code ++ [i]).length) = TR.cells ⟨r.b, r.pl, r.vn, r.vc, r.vw, r.vt, .slice n4 0 (s.code ++ [i]).length (s.code ++ [i]).length, r.m1, r.m2⟩ := zob (k := 6) h.pl
 rw [es] at g2; have o6 : Objs C19.base tf t6 (tsL key ⟨r.b, r.pl, r.vn, r.vc, r.vw, r.vt, .slice n4 0 (s.code ++ [i]).length (s.code ++ [i]).length, r.m1, r.m2⟩ ⟨s.names, s.consts, s.ws, s.ts, s.code ++ [i]⟩) := by
  refine Objs.upd (A := []) (o := zfo r.b none r.cells) o5 (fun k k1 _ => g3 k (fun e => k1 (by simp [zfo, e]))) (fun k hk => .inl hk) g2 (by simp [zfo]) (f3.off h.baseB.2 g3)
 have h6 : TS key tf t6 ⟨r.b, r.pl, r.vn, r.vc, r.vw, r.vt, .slice n4 0 (s.code ++ [i]).length (s.code ++ [i]).length, r.m1, r.m2⟩ ⟨s.names, s.consts, s.ws, s.ts, s.code ++ [i]⟩ := ⟨h.pl, o6⟩
 have nr0 : n0 ≠ r.b := fun e => nin0 (e ▸ TS.inB)
 have nr1 : n1 ≠ r.b := fun e => nin1 (e ▸ TS.inB)
 have e06 : t6.get n0 = t1.get n0 := by rw [g3 n0 nr0, e05]
 have e16 : t6.get n1 = t3.get n1 := by rw [g3 n1 nr1, e15]
 have notin : ∀ n, n ∉ (tsL key r s).flatMap Thg.blks -> n ≠ n4 -> n ∉ (tsL key ⟨r.b, r.pl, r.vn, r.vc, r.vw, r.vt, .slice n4 0 (s.code ++ [i]).length (s.code ++ [i]).length, r.m1, r.m2⟩ ⟨s.names, s.consts, s.ws, s.ts, s.code ++ [i]⟩).flatMap Thg.blks := by
  intro n h1 h2 h3; simp only [tsL, zfo, zfw, zaq, List.flatMap_cons, List.flatMap_nil, List.mem_append, List.mem_singleton, ybe, not_or] at h1 h3; simp only [zik, List.mem_singleton] at h3; simp only [zik] at h1
  obtain ⟨k1, k2, k3, k4, k5, k6, k7, k8⟩ := h1
  rcases h3 with h | h | h | h | h | h | h | h
  ·exact k1 h
  ·exact k2 h
  ·exact k3 h
  ·exact k4 h
  ·exact k5 h
  ·exact k6 h
  ·exact k7 h
  ·exact h2 h
 have tn1 : t.get n1 = none := by rw [<- a4 n1 (Ne.symm ne01)]; exact hn1
 obtain ⟨x0, hx0, hx0'⟩ := a2
 obtain ⟨x1, hx1, hx1'⟩ := c2
 obtain ⟨h7, q7⟩ := h6.froze (n := n0) (notin n0 nin0 ne04) (by rw [e06]; exact hx0) (h.os.tfn hn0)
 obtain ⟨h8, q8⟩ := h7.froze (n := n1) (notin n1 nin1 ne14) (by rw [e16]; exact hx1) (by rw [Tr.get_set, if_neg (Ne.symm ne01)]; exact h.os.tfn tn1)
 refine hQ _ t6 ⟨r.b, r.pl, r.vn, r.vc, r.vw, r.vt, .slice n4 0 (s.code ++ [i]).length (s.code ++ [i]).length, r.m1, r.m2⟩ _ (q7.trans q8) rfl rfl h8 ⟨n0, n1, rfl, ⟨x0, ?_, hx0'⟩, ⟨x1, ?_, hx1'⟩⟩
 ·rw [Tr.get_set, if_neg ne01, Tr.get_set, if_pos rfl]
 ·rw [Tr.get_set, if_pos rfl]
theorem _root_.Go.Am.Loose.own {base sz : Nat} {l : List D} {b n k : Nat} (h : Loose base tf t sz l (.slice b 0 n k)) : OwnD base tf t sz l b (some sz) := by
 rcases h with ⟨e1, _⟩ | ⟨b', cl, c, e1, k0, k1, k2, k3, k4⟩
 ·cases e1
 ·cases e1
  have hcl := k4.length
  have hcl3 : ∀ (j : Nat) cs, cl[j]? = some cs -> cs.length = sz := fun j cs hj => (k3 j cs hj).1
  have hfl := zf0 hcl3
  refine ⟨k0, k1, cl, ⟨c, by rw [hfl, hcl]; exact k2, fun j a hj => ?_⟩, hcl3, k4⟩
  have hj2 : j < cl.length * sz := by rw [<- hfl]; exact (yad.1 hj).1
  have hpos : 0 < sz := by
   rcases Nat.eq_zero_or_pos sz with e | e
   ·subst e; simp at hj2
   ·exact e
  have q1 : j / sz < cl.length := Nat.div_lt_of_lt_mul (by rw [yai]; exact hj2)
  have hq : cl[j / sz]? = some cl[j / sz] := yae q1
  have hql := hcl3 _ _ hq
  obtain ⟨a', hx⟩ : ∃ a', cl[j / sz][j % sz]? = some a' := ⟨_, yae (l := cl[j / sz]) (i := j % sz) (by rw [hql]; exact Nat.mod_lt _ hpos)⟩
  have e := zf1 hcl3 _ _ _ _ hq hx
  have ej : j / sz * sz + j % sz = j := by rw [yai]; exact ybi j sz
  rw [ej, hj] at e; have := (k3 _ _ hq).2 _ _ hx
  rw [ej] at this; rw [this, <- Option.some.inj e]
theorem _root_.Go.Am.OwnD.loose {base sz : Nat} {l : List D} {b n : Nat} (h : OwnD base tf t sz l b (some sz)) (hn : l.length = n) : Loose base tf t sz l (.slice b 0 n n) := by
 obtain ⟨h1, h2, cl, ⟨c, h3, h4⟩, h5, h6⟩ := h
 subst hn; have := h6.length
 refine .inr ⟨b, cl, c, rfl, h1, h2, by rw [h3, zf0 h5, this], fun i cs hi => ⟨h5 i cs hi, fun j a hj => h4 _ _ (zf1 h5 i j cs a hi hj)⟩, h6⟩
theorem zl7 {i : Nat} {v : zab} {Q : zaw} {x : XIns} (h : TS key tf t r s) (hv : Tgt tf r.b v i) (hi : s.code[i]? = some x) (hl : s.code.length < 300000)
  (hQ : ∀ t', TS key tf t' r ⟨s.names, s.consts, s.ws, s.ts, s.code.set i ⟨x.op, s.code.length, x.b⟩⟩ -> Q (.tup []) t') : zds (znz v []) fun p => Wq C19 F za2 p.1 p.2 t Q := by
 obtain ⟨n, m, rfl, h1, h2⟩ := hv
 have ef : znz (.func (.func 232) [] [.ptr n 0, .ptr m 0]) [] = some (232, [.ptr n 0, .ptr m 0]) := rfl
 rw [ef, zaa, q232]; have htle := h.os.tle
 have l0 : zao C19 106 ⟨0, t⟩ (.ptr n 0) = some (.ptr r.b 0) := zed (H := ⟨0, tf⟩) (fun _ _ k => htle _ _ k) (h1.load1 ty106 rfl rfl)
 have l1 : zao C19 3 ⟨0, t⟩ (.ptr m 0) = some (.int .i64 (i : Int)) := zed (H := ⟨0, tf⟩) (fun _ _ k => htle _ _ k) (h2.load1 ty3 rfl rfl)
 have hlt : i < s.code.length := (yad.1 hi).1
 refine w232 _ _ ?_
 simp only [t232, wpT]; obtain ⟨b, e1⟩ : ∃ b, r.vk = .slice b 0 s.code.length s.code.length := by
  rcases h.lk with ⟨_, e2⟩ | ⟨b, cl, c, e1, _⟩
  ·have : s.code = [] := List.map_eq_nil_iff.1 e2
   rw [this] at hlt; simp at hlt
  ·rw [yag] at e1; exact ⟨b, e1⟩
 have ldk := h.ldK
 have hlk := h.lk
 rw [e1] at ldk hlk; have ia : zae C19 37 (.slice b 0 s.code.length s.code.length) (.int .i64 (i : Int)) = some (.ptr b (0 + i * 3)) := zb7 sl37 hlt
 have fa : zai C19 54 1 (.ptr b (0 + i * 3)) = some (.ptr b (0 + i * 3 + 1)) := by
  unfold zai zf7; rw [ty54, zac]; rfl
 have lv : za9 (.slice b 0 s.code.length s.code.length) = some (.int .i64 (s.code.length : Int)) := rfl
 rw [l0, zaa, zc5, zaa, znu, zaa, ldk, zaa, l1, zaa, zag, zaa]; simp only [zaa, zc5, znu, ldk, lv, zag, ia, fa]; intro mm _ _; obtain ⟨t', g1, g2, g3⟩ := OwnD.store (C := C19) hlk.own (i := i) (o := 1) (T := 3) (d := x.d) (d' := XIns.d ⟨x.op, s.code.length, x.b⟩) (v := .int .i64 (s.code.length : Int)) (by simp [hi]) ty3 rfl (by exact (by decide : 1 + 1 <= 3)) rfl (fun cs h3 hrd => by
  rw [z0v] at hrd ⊢
  subst hrd; rfl)
 have e3 : 0 + i * 3 + 1 = i * 3 + 1 := by omega
 rw [e3, g1, zaa]; have hmap : (s.code.map XIns.d).set i (XIns.d ⟨x.op, s.code.length, x.b⟩) = (s.code.set i ⟨x.op, s.code.length, x.b⟩).map XIns.d := by rw [List.map_set]
 rw [hmap] at g2; refine hQ t' ⟨h.pl, ?_⟩
 have hos := h.os
 refine Objs.upd (A := [zfo r.b none r.cells, zfw r.m1 (zaz 0 s.names), zfw r.m2 (zaz 0 (s.consts.map key)), zaq C19.base 1 (s.names.map D.str) r.vn, zaq C19.base 6 (s.consts.map zc8.d) r.vc, zaq C19.base 1 s.ws r.vw, zaq C19.base 1 s.ts r.vt]) (B := []) (o := zaq C19.base 3 (s.code.map XIns.d) r.vk) hos (fun k k1 _ => g3 k (fun e => k1 ?_)) (fun k hk => .inl hk) ?_ ?_ (htle.off ?_ g3)
 ·subst e; rw [e1]; simp [zaq, zik]
 ·rw [e1]; exact g2.loose (by simp)
 ·rw [e1]; simp [zaq, zik]
 ·exact (hlk.none (zhk.2 rfl)).1
end Go.Proofs
namespace Go.Proofs
open Go Go.Am
variable [zcm]
variable {t : Tr zal}
theorem pv36 {f : zek} {u v : zab} (h1 : RSl t 1 (zd8 f.n.limbs) u) (h2 : RSl t 1 (zd8 f.d.limbs) v) (hf : f.ok) : pvC C19 F 36 [.agg [.bool f.n.neg, u, .bool f.d.neg, v]] t = some (.int .i64 (zh0 f : Nat)) := by
 have hs := zhc hf
 refine zbj.2 (w36 _ _ _ _ ?_)
 unfold zh0 at hs ⊢
 simp (disch := omega) only [t36, wpT, h1.len, h2.len, zaa, zag, zjj, zak]
 simp
mutual
theorem pv37 : ∀ (x : zam) (left : Int) (cs : List zab), x.ok -> -9007199254740992 <= left -> left <= 9007199254740992 -> RD t x.d cs -> pvC C19 F 37 [.agg cs, .int .i64 left] t = some (.int .i64 (zee x left))
 | .mk op name v args, left, cs, hx, hl1, hl2, h => by
  obtain ⟨a, b, c, rfl, ha, hb, hc⟩ := zhf h
  simp only [zam.op, zam.name, zam.v, zam.args] at ha hb hc ⊢
  have hx' := hx
  unfold zam.ok at hx'; have hf := zhc hx'.2.1
  have hn := hx'.1
  unfold zgl at hn; refine zbj.2 (w37 _ _ _ _ _ _ _ _ _ _ ?_)
  simp (disch := omega) only [t37, wpT, q36, pv36 ha hb hx'.2.1, zaa, zag, zo1, ze9, if_true, zf8, zak, Int.tdiv_eq_ediv_of_nonneg]
  unfold zee; exact zzei args args left _ op name v _ _ c 0 hc rfl hx'.2.2.2 hx'.2.2.1 (by omega) hl1 hl2 (by omega)
theorem zzei : ∀ (l args : List zam) (left n : Int) (op : Nat) (name : List Nat) (v : zc8) (a b c : zab) (i : Nat), RSl t 9 (args.map zam.d) c -> args.drop i = l -> zam.oks l -> args.length < zgl -> 0 <= n -> -9007199254740992 <= left -> left <= 9007199254740992 -> n <= 27021597764222976 →
  jp 37 2 [.int .i64 left, .int .i64 n, .int .i64 i, .int .u8 op, .str name, .int .u8 v.kind, .bool v.f.n.neg, a, .bool v.f.d.neg, b, .int .i64 v.i, c] t (fun v' t' => v' = .int .i64 (zgr l left n) /\ t' = t)
 | [], args, left, n, op, name, v, a, b, c, i, hc, hd, hok, hsz, hn, hl1, hl2, hn2 => by
  have := zmv hd
  refine j37_2 _ _ _ _ _ _ _ _ _ _ _ _ ?_
  simp only [zzfy, wpT, hc.len, zaa, zag, yag, zax]; rw [if_neg (by omega)]
  unfold zgr; simp
 | x :: l, args, left, n, op, name, v, a, b, c, i, hc, hd, hok, hsz, hn, hl1, hl2, hn2 => by
  obtain ⟨h1, h2, h3⟩ := zk0 hd
  unfold zgl at hsz; have hok' := hok
  unfold zam.oks at hok'; refine j37_2 _ _ _ _ _ _ _ _ _ _ _ _ ?_
  obtain ⟨pb, po, cs, g1, g2, g3, g4, g5⟩ := zkk.at sl48 (by simp) hc (i := i) (d := x.d) (by simp [h1])
  simp only [zzfy, wpT, hc.len, zaa, zag, yag, zax, zc4, g1, g2, zxs]; rw [if_pos (by omega)]
  unfold zgr; split
  ·rename_i hle
   obtain ⟨a1, b1, c1, rfl, ha1, hb1, hc1⟩ := zhf g5
   have hs := zi9 x (left - n) hok'.1
   rw [zl0 g5 x.zs]; simp only [zaa, cellsOf, zig, zju, zdk, zfn]; simp (disch := omega) only [q37, yaa, yab, zak]
   rw [pv37 x (left - n) _ hok'.1 (by omega) (by omega) g5]
   simp (disch := omega) only [zaa, zag, zak]
   have := zzei l args left (n + zee x (left - n)) op name v a b c (i + 1) hc h2 hok'.2 hsz (by omega) hl1 hl2 (by omega)
   rw [show ((i : Int) + 1) = ((i + 1 : Nat) : Int) by omega]
   exact this
  ·simp
end
end Go.Proofs
namespace Go.Proofs
open Go Go.Am
variable [zcm]
variable {t : Tr zal}
def zo0 : List zxk -> Int -> Int
 | [], n => n
 | d :: l, n => if n <= 2000 then zo0 l (n + (d.name.length : Int) / 30) else n
def zhz : List zhs -> Int -> Int
 | [], n => n
 | r :: l, n => if n <= 2000 then zhz l (n + (zh0 r.f : Nat)) else n
def zg0 : List zb9 -> Int -> Int
 | [], n => n
 | x :: l, n => if n <= 2000 then zg0 l (zhz x.rows (n + (x.name.length : Int) / 30)) else n
def zgq (c : za4) (n : Int) : Int := n + ((c.name.length : Int) / 30 + (c.label.length : Int) / 30 + zee c.when_ (2000 - n))
def zdr : List za4 -> Int -> Int
 | [], n => n
 | c :: l, n => if n <= 2000 then (if zgq c n <= 2000 then zdr l (zgq c n + zee c.then_ (2000 - zgq c n)) else zdr l (zgq c n)) else n
def sizeP (p : zjm) : Int := zdr p.clauses (zg0 p.tables (zo0 p.defs (1 + (p.name.length : Int) / 30 + p.defs.length + p.tables.length + p.clauses.length)))
theorem zzc3 (n : Nat) : Int.tdiv (n : Int) 30 = (n : Int) / 30 := Int.tdiv_eq_ediv_of_nonneg (by omega)
section
variable {p : zjm} {a b c : zab}
theorem zvk {l : List za4} (hc : RSl t 24 (l.map za4.d) c) (hn : l.length < 1125899906842624) (hf : ∀ x ∈ l, x.fit) : ∀ (m i : Nat) (n : Int), i + m = l.length -> 0 <= n -> n < 1152921504606846976 -> jp 13 14 [.int .i64 2000, .int .i64 n, .int .i64 (i : Int), .str p.name, a, b, c] t (fun v s => v = .int .i64 (zdr (l.drop i) n) /\ s = t) := by
 intro m; induction m with
 | zero =>
  intro i n hi h0 h1; refine zze4 _ _ _ _ _ _ _ ?_
  simp only [z50, wpT, hc.len, zaa, zag, yag, zax]; rw [if_neg (by omega), yau (by omega)]
  (first | exact ⟨rfl, rfl⟩ | exact ⟨rfl, trivial⟩ | trivial)
 | succ m ih =>
  intro i n hi h0 h1; have hlt : i < l.length := by omega
  obtain ⟨q, off, u1, u2, u3, w1, w2, w3, g1, g2, g3, g4, g5, g6⟩ := zqy hc (yae hlt)
  have hfit := hf _ (List.getElem_mem hlt)
  obtain ⟨f1, f2, _, _, _, f6, f7⟩ := hfit
  unfold zgl at f1 f2; have ok1 := zam.fit_ok f6
  have ok2 := zam.fit_ok f7
  refine zze4 _ _ _ _ _ _ _ ?_
  simp only [z50, wpT, hc.len, zaa, zag, yag, zax, zc4]; rw [if_pos (by omega), yam hlt]
  unfold zdr; by_cases h2 : n <= 2000
  ·rw [if_pos h2, if_pos h2]
   unfold zs9 at g3; rw [g1, zaa, g2, zaa, g3, zaa]; unfold zft at g6; simp only [zft, cellsOf, zig, zju, zdk, zfn, yaa, yab]; have s1 := zi9 l[i].when_ (2000 - n) ok1
   have e1 := pv37 l[i].when_ (2000 - n) _ ok1 (by omega) (by omega) g4
   unfold zex at e1; have ew : zgq l[i] n = n + ((l[i].name.length : Int) / 30 + (l[i].label.length : Int) / 30 + zee l[i].when_ (2000 - n)) := rfl
   have eN : zah .i64 (n + zah .i64 (zah .i64 (zah .i64 ((l[i].name.length : Int) / 30) + zah .i64 ((l[i].label.length : Int) / 30)) + zee l[i].when_ (2000 - n))) = zgq l[i] n := by
    rw [zak (n := (l[i].name.length : Int) / 30) (by omega) (by omega), zak (n := (l[i].label.length : Int) / 30) (by omega) (by omega), zak (n := (l[i].name.length : Int) / 30 + (l[i].label.length : Int) / 30) (by omega) (by omega),
     zak (n := (l[i].name.length : Int) / 30 + (l[i].label.length : Int) / 30 + zee l[i].when_ (2000 - n)) (by omega) (by omega), zak (by omega) (by omega)]
    rfl
   have bw : 0 <= zgq l[i] n /\ zgq l[i] n < 1152921504606846976 := by rw [ew]; omega
   refine zbp g6 ?_
   rw [zak (n := 2000 - n) (by omega) (by omega), q37, e1, zaa, zag, zaa]
   simp only [zo1, ze9, if_true, zf8, zzc3, eN, zc4]; have ei : zah .i64 ((i : Int) + 1) = ((i + 1 : Nat) : Int) := by rw [zak (by omega) (by omega)]; omega
   generalize zgq l[i] n = k at *
   by_cases h3 : k <= 2000
   ·rw [if_pos h3, if_pos h3]
    have s2 := zi9 l[i].then_ (2000 - k) ok2
    have e2 := pv37 l[i].then_ (2000 - k) _ ok2 (by omega) (by omega) g5
    unfold zex at e2; rw [zak (n := 2000 - k) (by omega) (by omega), q37, e2, zaa, zag, zaa, ei, zak (by omega) (by omega)]
    exact ih (i + 1) _ (by omega) (by omega) (by omega)
   ·rw [if_neg h3, if_neg h3, ei]
    exact ih (i + 1) _ (by omega) bw.1 bw.2
  ·rw [if_neg h2, if_neg h2]
   (first | exact ⟨rfl, rfl⟩ | exact ⟨rfl, trivial⟩ | trivial)
theorem zn7 : ∀ (l : List zhs) (n : Int), (∀ r ∈ l, r.fit) -> 0 <= n -> 0 <= zhz l n /\ zhz l n <= max n 4503599627372496
 | [], n, _, h => by unfold zhz; omega
 | r :: l, n, hf, h => by
  unfold zhz; split
  ·have := zhc (hf r (by simp)).2.2.2.1
   have := zn7 l (n + (zh0 r.f : Nat)) (fun x hx => hf x (by simp [hx])) (by omega)
   omega
  ·omega
theorem zqu {l : List zb9} (hb : RSl t 3 (l.map zb9.d) b) {i : Nat} (hi : i < l.length) : ∃ p o v, zae C19 23 b (.int .i64 (i : Int)) = some (.ptr p o) /\ zai C19 82 0 (.ptr p o) = some (.ptr p (o + 0)) /\ zai C19 82 2 (.ptr p o) = some (.ptr p (o + 2)) /\ zao C19 9 ⟨0, t⟩ (.ptr p (o + 0)) = some (.str l[i].name) /\ zao C19 80 ⟨0, t⟩ (.ptr p (o + 2)) = some v /\ RSl t 7 (l[i].rows.map zhs.d) v := by
 obtain ⟨p, o, cs, g1, g2, g3, _, g5⟩ := zkk.at sl23 (by simp) hb (i := i) (d := l[i].d) (by simp [yae hi])
 obtain ⟨v, rfl, hv⟩ := zo2 g5
 exact ⟨p, o, v, g1, by kernel_rfl, by kernel_rfl, g3.load1 ty9 rfl rfl, g3.load1 ty80 rfl rfl, hv⟩
theorem z6c {l : List zb9} (hb : RSl t 3 (l.map zb9.d) b) (hf : ∀ x ∈ l, x.fit) {i : Nat} (hi : i < l.length) (hil : i < 1125899906842624) {Q : zaw} : ∀ (m j : Nat) (n : Int), j + m = l[i].rows.length -> 0 <= n -> n < 1152921504606846976 →
  jp 13 6 [.int .i64 2000, .int .i64 (zhz (l[i].rows.drop j) n), .int .i64 ((i + 1 : Nat) : Int), .str p.name, a, b, c] t Q -> jp 13 10 [.int .i64 2000, .int .i64 n, .int .i64 (i : Int), .int .i64 (j : Int), .str p.name, a, b, c] t Q := by
 obtain ⟨q, o, v, g1, g2, g3, g4, g5, g6⟩ := zqu hb hi
 have hfit := hf _ (List.getElem_mem hi)
 obtain ⟨f1, f2, f3⟩ := hfit
 unfold zgl at f1 f2; have ei : zah .i64 ((i : Int) + 1) = ((i + 1 : Nat) : Int) := by rw [zak (by omega) (by omega)]; omega
 intro m; induction m with
 | zero =>
  intro j n hj h0 h1 hQ; rw [yau (by omega)] at hQ
  refine zze5 _ _ _ _ _ _ _ _ ?_
  simp only [z52, wpT]; rw [g1, zaa, g3, zaa, g5, zaa, g6.len, zaa, yag, zag, zaa]; simp only [zax]; rw [if_neg (by omega), ei]
  exact hQ
 | succ m ih =>
  intro j n hj h0 h1 hQ; have hlt : j < l[i].rows.length := by omega
  rw [yam hlt] at hQ; unfold zhz at hQ; refine zze5 _ _ _ _ _ _ _ _ ?_
  simp only [z52, wpT]; rw [g1, zaa, g3, zaa, g5, zaa, g6.len, zaa, yag, zag, zaa]; simp only [zax, zc4]; rw [if_pos (by omega)]
  by_cases h2 : n <= 2000
  ·rw [if_pos h2] at hQ ⊢
   obtain ⟨q', o', cs, k1, k2, k3, _, k5⟩ := zkk.at sl80 (by simp) g6 (i := j) (d := l[i].rows[j].d) (by simp [yae hlt])
   obtain ⟨x, y, rfl, hx, hy⟩ := z0u k5
   have fa : zai C19 85 3 (.ptr q' o') = some (.ptr q' (o' + 3)) := by kernel_rfl
   have ld : zao C19 45 ⟨0, t⟩ (.ptr q' (o' + 3)) = some (.agg [.bool l[i].rows[j].f.n.neg, x, .bool l[i].rows[j].f.d.neg, y]) := k3.load (j := 3) ty45 rfl rfl (by exact (by decide : 3 + 4 <= 7))
   have fr : (l[i].rows[j]).fit := f3 _ (List.getElem_mem hlt)
   have hz : zoy [(.bool false), .nilslice, (.bool false), .nilslice] (.agg [.bool l[i].rows[j].f.n.neg, x, .bool l[i].rows[j].f.d.neg, y]) = some (cellsOf [.bool l[i].rows[j].f.n.neg, x, .bool l[i].rows[j].f.d.neg, y]) := zfl (by
    show (true && (zjy .nilslice x && (true && (zjy .nilslice y && true)))) = true
    rw [zbi hx, zbi hy]; rfl)
   have e1 := pv36 hx hy fr.2.2.2.1
   have hs := zhc fr.2.2.2.1
   have ej : zah .i64 ((j : Int) + 1) = ((j + 1 : Nat) : Int) := by rw [zak (by omega) (by omega)]; omega
   simp only [zaa, g3, g5]; rw [k1, zaa, fa, zaa, ld, zaa, hz, zaa]; simp only [cellsOf, zdk, zfn, yaa, yab]; rw [q36, e1, zaa, zag, zaa, ej, zak (by omega) (by omega)]
   exact ih (j + 1) _ (by omega) (by omega) (by omega) hQ
  ·rw [if_neg h2] at hQ ⊢
   rw [ei]; exact hQ
theorem zyb (hb : RSl t 3 (p.tables.map zb9.d) b) (hc : RSl t 24 (p.clauses.map za4.d) c) (hp : p.fit) : ∀ (m i : Nat) (n : Int), i + m = p.tables.length -> 0 <= n -> n < 1152921504606846976 -> jp 13 6 [.int .i64 2000, .int .i64 n, .int .i64 (i : Int), .str p.name, a, b, c] t (fun v s => v = .int .i64 (zdr p.clauses (zg0 (p.tables.drop i) n)) /\ s = t) := by
 have hnt := hp.ntables
 have hnc := hp.nclauses
 unfold zgl at hnt hnc; have fin : ∀ n : Int, 0 <= n -> n < 1152921504606846976 -> jp 13 14 [.int .i64 2000, .int .i64 n, .int .i64 0, .str p.name, a, b, c] t (fun v s => v = .int .i64 (zdr p.clauses n) /\ s = t) := by
  intro n h0 h1; have := zvk (p := p) (a := a) (b := b) hc hnc hp.clauses p.clauses.length 0 n (by omega) h0 h1
  rw [List.drop_zero] at this; exact this
 intro m; induction m with
 | zero =>
  intro i n hi h0 h1; refine j13_6 _ _ _ _ _ _ _ ?_
  simp only [zzf3, wpT, hb.len, zaa, zag, yag, zax]; rw [if_neg (by omega), yau (by omega)]
  exact fin n h0 h1
 | succ m ih =>
  intro i n hi h0 h1; have hlt : i < p.tables.length := by omega
  obtain ⟨q, o, v, g1, g2, g3, g4, g5, g6⟩ := zqu hb hlt
  have hfit := hp.tables _ (List.getElem_mem hlt)
  obtain ⟨f1, f2, f3⟩ := hfit
  unfold zgl at f1; refine j13_6 _ _ _ _ _ _ _ ?_
  simp only [zzf3, wpT, hb.len, zaa, zag, yag, zax, zc4]; rw [if_pos (by omega), yam hlt]
  unfold zg0; by_cases h2 : n <= 2000
  ·rw [if_pos h2, if_pos h2, g1, zaa, g2, zaa, g4, zaa, zca, zaa, zf8, zzc3, zak (n := (p.tables[i].name.length : Int) / 30) (by omega) (by omega), zak (by omega) (by omega)]
   have hr := zn7 p.tables[i].rows (n + (p.tables[i].name.length : Int) / 30) f3 (by omega)
   refine z6c (p := p) (a := a) (c := c) hb hp.tables hlt (by omega) p.tables[i].rows.length 0 _ (by omega) (by omega) (by omega) ?_
   rw [List.drop_zero]; exact ih (i + 1) _ (by omega) (by omega) (by omega)
  ·rw [if_neg h2, if_neg h2]
   exact fin n h0 h1
theorem z6d (ha : RSl t 3 (p.defs.map zxk.d) a) (hb : RSl t 3 (p.tables.map zb9.d) b) (hc : RSl t 24 (p.clauses.map za4.d) c) (hp : p.fit) : ∀ (m i : Nat) (n : Int), i + m = p.defs.length -> 0 <= n -> n < 1152921504606846976 -> jp 13 2 [.int .i64 2000, .int .i64 n, .int .i64 (i : Int), .str p.name, a, b, c] t (fun v s => v = .int .i64 (zdr p.clauses (zg0 p.tables (zo0 (p.defs.drop i) n))) /\ s = t) := by
 have hnd := hp.ndefs
 unfold zgl at hnd; have fin : ∀ n : Int, 0 <= n -> n < 1152921504606846976 -> jp 13 6 [.int .i64 2000, .int .i64 n, .int .i64 0, .str p.name, a, b, c] t (fun v s => v = .int .i64 (zdr p.clauses (zg0 p.tables n)) /\ s = t) := by
  intro n h0 h1; have := zyb (a := a) hb hc hp p.tables.length 0 n (by omega) h0 h1
  rw [List.drop_zero] at this; exact this
 intro m; induction m with
 | zero =>
  intro i n hi h0 h1; refine j13_2 _ _ _ _ _ _ _ ?_
  simp only [zzf4, wpT, ha.len, zaa, zag, yag, zax]; rw [if_neg (by omega), yau (by omega)]
  exact fin n h0 h1
 | succ m ih =>
  intro i n hi h0 h1; have hlt : i < p.defs.length := by omega
  obtain ⟨q, o, cs, g1, g2, g3, _, g5⟩ := zkk.at sl22 (by simp) ha (i := i) (d := p.defs[i].d) (by simp [yae hlt])
  have g5 := rd_def g5
  subst g5; have fa : zai C19 79 0 (.ptr q o) = some (.ptr q (o + 0)) := by kernel_rfl
  have ld : zao C19 9 ⟨0, t⟩ (.ptr q (o + 0)) = some (.str p.defs[i].name) := g3.load1 ty9 rfl rfl
  have hfit := hp.defs _ (List.getElem_mem hlt)
  have f1 := hfit.1
  unfold zgl at f1; have ei : zah .i64 ((i : Int) + 1) = ((i + 1 : Nat) : Int) := by rw [zak (by omega) (by omega)]; omega
  refine j13_2 _ _ _ _ _ _ _ ?_
  simp only [zzf4, wpT, ha.len, zaa, zag, yag, zax, zc4]; rw [if_pos (by omega), yam hlt]
  unfold zo0; by_cases h2 : n <= 2000
  ·rw [if_pos h2, if_pos h2, g1, zaa, fa, zaa, ld, zaa, zca, zaa, zf8, zzc3, ei, zak (n := (p.defs[i].name.length : Int) / 30) (by omega) (by omega), zak (by omega) (by omega)]
   exact ih (i + 1) _ (by omega) (by omega) (by omega)
  ·rw [if_neg h2, if_neg h2]
   exact fin n h0 h1
theorem zzbg {cs : List zab} (hp : p.fit) (h : RD t p.d cs) : pvC C19 F 13 [.agg cs, .int .i64 2000] t = some (.int .i64 (sizeP p)) := by
 obtain ⟨a, b, c, rfl, ha, hb, hc⟩ := zp4 h
 have p1 := hp.name
 have p2 := hp.ndefs
 have p3 := hp.ntables
 have p4 := hp.nclauses
 unfold zgl at p1 p2 p3 p4; refine zbj.2 (w13 _ _ _ _ _ ?_)
 simp only [t13, wpT, ha.len, hb.len, hc.len, zaa, zag, yag, zf8, zzc3]; rw [zak (n := (p.name.length : Int) / 30) (by omega) (by omega), zak (n := 1 + (p.name.length : Int) / 30) (by omega) (by omega), zak (n := 1 + (p.name.length : Int) / 30 + (p.defs.length : Int)) (by omega) (by omega), zak (n := 1 + (p.name.length : Int) / 30 + (p.defs.length : Int) + (p.tables.length : Int)) (by omega) (by omega), zak (by omega) (by omega)]
 have := z6d ha hb hc hp p.defs.length 0 (1 + (p.name.length : Int) / 30 + p.defs.length + p.tables.length + p.clauses.length) (by omega) (by omega) (by omega)
 rw [List.drop_zero] at this; exact this
end
end Go.Proofs
namespace Go.Proofs
open Go Go.Am
variable [zcm]
variable {t : Tr zal}
def zon : List (List Nat) := [[], [], [], [52], [52], [], [50, 32, 50, 50], [50, 50, 32, 51, 51, 32, 53, 53, 32, 54, 54, 32, 52, 53, 32, 52, 54], [50, 50, 32, 51, 51, 32, 53, 53, 32, 54, 54, 32, 52, 52, 32, 52, 53, 32, 52, 54], [50, 50, 32, 51, 50, 32, 50, 51], [50, 50, 32, 51, 51, 32, 51, 50], [50, 50, 32, 51, 51, 32, 52, 52, 32, 53, 53, 32, 54, 54], [50, 50, 32, 51, 51, 32, 52, 52, 32, 53, 53, 32, 54, 54], [50, 50, 32, 51, 51, 32, 52, 52, 32, 53, 53, 32, 54, 54], [49, 49, 32, 50, 50, 32, 51, 51, 32, 52, 52, 32, 53, 53, 32, 54, 54], [], [], [49], [], [50, 50, 32, 51, 51], [52, 52], [52, 52], [52, 52, 54], [52, 52], [50], [50, 32, 51, 32, 53, 32, 54], [52]]
def z18 (t : Tr zal) : Prop := At t 0 0 (zon.map zab.str)
theorem z18.mono {t' : Tr zal} (h : z18 t) (k : TLe t t') : z18 t' := At.mono k h
def fstW (s : List Nat) : List Nat := match zzc8 [32] s with | some p => p.1 | none => s
def argT (s : List Nat) : Int × Int := if s = [] then (1, 0) else ((fstW s).length, (fstW s).length)
def zps (op : Nat) : Bool := op == 1 || op == 2 || op == 5 || op == 6 || op == 15 || op == 16 || op == 18
theorem zxc : ∀ s ∈ zon, s.length < 100 := by decide
theorem z96 : ∀ k, k < 27 -> zps k = false -> ∀ s, zon[k]? = some s -> argT s = zq8 k := by
 have h : ((List.range 27).all fun k => zps k || (match zon[k]? with | some s => decide (argT s = zq8 k) | none => true)) = true := by kernel_rfl
 intro k hk hs s he; have := ybc.1 h k (List.mem_range.2 hk)
 rw [hs, he, Bool.false_or] at this; exact of_decide_eq_true this
theorem cut_pv {s : List Nat} (hs : s.length < 100) : ∃ a b, pvC C19 F 238 [.str s, .str [32]] t = some (.tup [.str (fstW s), .str a, .bool b]) := by
 have hg : C19.prims.get 238 = some pCut := by kernel_rfl
 have hb : Nat.blt (zbx s) 4294967281 = true := by rw [zbb]; exact zdh.2 (by omega)
 unfold fstW
 cases hc : zzc8 [32] s with
 | none => exact ⟨[], false, ztw hg fun H => by unfold pCut; simp only []; rw [hb, hc]; rfl⟩
 | some p => exact ⟨p.2, true, ztw hg fun H => by unfold pCut; simp only []; rw [hb, hc]; rfl⟩
theorem zzh2 {op : Nat} (hop : op < 256) (hg : z18 t) : pvC C19 F 181 [.int .u8 (op : Int)] t = some (.tup [.int .i64 (zq8 op).1, .int .i64 (zq8 op).2]) := by
 have w : zah .i64 (op : Int) = (op : Int) := zak (by omega) (by omega)
 have tab : 27 <= op \/ zps op = false -> wp 181 (.ite (iLe 27 (zah .i64 (op : Int)))
 (.ret (.tup [(.int .i64 1), (.int .i64 0)]))
 (.opt (zae C19 273 (.ptr 0 0) (.int .u8 (op : Int))) fun a13 => .light (fun m => zao C19 9 ⟨0, m⟩ a13) fun a14 => .asS a14 fun s15 => .ite (zkf s15 [])
 (.ret (.tup [(.int .i64 1), (.int .i64 0)]))
 (.opt (zae C19 273 (.ptr 0 0) (.int .u8 (op : Int))) fun a16 => .light (fun m => zao C19 9 ⟨0, m⟩ a16) fun a17 => .asS a17 fun s18 => .call 238 [(.str s18), (.str [32])] fun a19 =>
 .opt (zas 0 a19) fun a20 => .asS a20 fun s21 => .opt (zas 1 a19) fun a22 => .asS a22 fun s23 => .opt (zas 2 a19) fun a24 => .asB a24 fun b25 => .ret (.tup [(.int .i64 (Int.ofNat (zbx s21))), (.int .i64 (Int.ofNat (zbx s21)))])))) t (fun v' t' => v' = .tup [.int .i64 (zq8 op).1, .int .i64 (zq8 op).2] /\ t' = t) := by
  intro h; simp only [wpT, w, zc4]; by_cases h27 : 27 <= op
  ·rw [if_pos (by omega)]
   have e : zq8 op = (1, 0) := by unfold zq8; repeat rw [if_neg (by omega)]
   rw [e]; (first | exact ⟨rfl, rfl⟩ | exact ⟨rfl, trivial⟩ | trivial)
  ·rw [if_neg (by omega)]
   have hsp : zps op = false := h.resolve_left h27
   obtain ⟨s, hs⟩ : ∃ s, zon[op]? = some s := ⟨_, yae (l := zon) (i := op) (by show op < 27; omega)⟩
   have hN := z96 op (by omega) hsp s hs
   have hsm := zxc s (List.mem_of_getElem? hs)
   have ia : zae C19 273 (.ptr 0 0) (.int .u8 (op : Int)) = some (.ptr 0 (0 + op * 1)) := by
    unfold zae; have e1 : (zab.int .u8 (op : Int)).asNat = some op := rfl
    rw [ty273, zac, e1, zac]; simp only [zab.asSlice, zab.asPtr, zac, zct.asArr]; rw [ty9, zac, zdh.2 (by omega)]
    rfl
   have ld : zao C19 9 ⟨0, t⟩ (.ptr 0 (0 + op * 1)) = some (.str s) := by
    have := At.load1 (C := C19) (j := op) (a := .str s) hg ty9 rfl (by rw [yav, hs]; rfl)
    rw [show 0 + op * 1 = 0 + op by omega]; exact this
   obtain ⟨a, b, hc⟩ := cut_pv (t := t) hsm
   rw [ia, zaa, ld, zaa, zca, zaa]; unfold argT at hN; by_cases h0 : s = []
   ·rw [if_pos ((zf2 _ _).2 h0)]
    rw [if_pos h0] at hN; rw [<- hN]; (first | exact ⟨rfl, rfl⟩ | exact ⟨rfl, trivial⟩ | trivial)
   ·rw [if_neg (fun e => h0 ((zf2 _ _).1 e))]
    rw [if_neg h0] at hN; simp only [zaa, ld, zca]; rw [q238, hc]; simp only [zaa, zas, zab.asTup, zac, zbh, yaa, yab, zca, zay, zf8]; rw [<- hN]; (first | exact ⟨rfl, rfl⟩ | exact ⟨rfl, trivial⟩ | trivial)
 refine zbj.2 (w181 _ ?_)
 have pos : ∀ {k : Nat} {x y : T} {Q : zaw}, op = k -> wp 181 x t Q -> wp 181 (.ite (iEq (op : Int) (k : Int)) x y) t Q := fun h hx => zbp (zbu.2 (by omega)) hx
 have neg : ∀ {k : Nat} {x y : T} {Q : zaw}, op ≠ k -> wp 181 y t Q -> wp 181 (.ite (iEq (op : Int) (k : Int)) x y) t Q := fun h hy => zem (fun e => absurd (zbu.1 e) (by omega)) hy
 unfold t181; by_cases h1 : op = 1
 ·refine pos h1 (pos h1 ?_); subst h1; exact ⟨rfl, rfl⟩
 ·refine neg h1 ?_
  by_cases h2 : op = 2
  ·refine pos h2 ?_; subst h2; exact ⟨rfl, rfl⟩
  ·refine neg h2 ?_
   by_cases h5 : op = 5
   ·refine pos h5 ?_; subst h5; exact ⟨rfl, rfl⟩
   ·refine neg h5 ?_
    by_cases h6 : op = 6
    ·refine pos h6 ?_; subst h6; exact ⟨rfl, rfl⟩
    ·refine neg h6 ?_
     by_cases h15 : op = 15
     ·refine pos h15 (pos h15 ?_); subst h15; exact ⟨rfl, rfl⟩
     ·refine neg h15 ?_
      by_cases h16 : op = 16
      ·refine pos h16 ?_; subst h16; exact ⟨rfl, rfl⟩
      ·refine neg h16 ?_
       by_cases h18 : op = 18
       ·refine pos h18 ?_; subst h18; exact ⟨rfl, rfl⟩
       ·refine neg h18 ?_
        exact tab (.inr (by simp [zps, h1, h2, h5, h6, h15, h16, h18]))
theorem z80 {x : zam} {a b c : zab} (hx : x.fit) (hg : z18 t) (ha : RSl t 1 (zd8 x.v.f.n.limbs) a) (hb : RSl t 1 (zd8 x.v.f.d.limbs) b) (hc : RSl t 9 (x.args.map zam.d) c) : pvC C19 F 167 [.agg (zex x a b c)] t = some (.bool (zdt zap x.op x.v x.args.length)) := by
 obtain ⟨op, name, v, args⟩ := x
 simp only [zam.op, zam.name, zam.v, zam.args] at ha hb hc ⊢
 unfold zam.fit at hx; obtain ⟨h1, h2, _, h3, h4, _⟩ := hx
 unfold zgl at h4; have c1 := z4n ha hb h3.2.1
 have c2 := zzh2 (t := t) h1 hg
 refine zbj.2 (w167 _ _ _ _ _ _ _ _ _ ?_)
 simp only [t167, wpT, zam.op, zam.name, zam.v, zam.args, q25, q181, c1, c2, zaa, zay, zas, zab.asTup, zac, zbh, yaa, yab, zag, hc.len, yag, zbu, zo4, z8o, decide_eq_true_eq]
 unfold zdt; by_cases h0 : op = 1
 ·rw [if_pos (by omega)]
  cases hv : zap v with
  | false => simp [h0]
  | true =>
   simp only [Bool.true_eq_false, if_false]; by_cases h5 : (zq8 op).1 <= (args.length : Int)
   ·rw [if_pos h5]; simp [h5]
   ·rw [if_neg h5]; simp [h5]
 ·rw [if_neg (by omega)]
  by_cases h5 : (zq8 op).1 <= (args.length : Int)
  ·rw [if_pos h5]; simp [h5, h0]
  ·rw [if_neg h5]; simp [h5]
end Go.Proofs
namespace Go.Am
open Go Go.RowKit
section
variable {t tf : Tr zal} {C : Ctx}
theorem zoo {T el sz : Nat} (hT : zxl C T el sz) {l : List D} {x : zab} (hx : RSl tf sz l x) (ht : TLe tf t) (hl : l.length < 1000000) {n : Nat} (hn : t.get n = none) :
  ∃ v k t' tf', zbf C T T .nilslice x ⟨n, t⟩ = some (v, ⟨k, t'⟩) /\ RSl tf' sz l v /\ TLe tf tf' /\ TLe tf' t' /\ TLe t t' /\ Off n t t' /\ Off n tf tf' := by
 obtain ⟨⟨y, hy1, hy2, hy3⟩, ⟨z, hz1, hz2, hz3, hz4, hz5⟩⟩ := hT
 obtain ⟨cl, he, hd⟩ := hx
 have hcl := hd.length
 obtain ⟨hf, hlen⟩ := (he.mono ht).first (n := n)
 have hall := he.len
 have base : zbf C T T .nilslice x ⟨n, t⟩ = zff ⟨n, t⟩ z cl.length cl.flatten := by
  unfold zbf zgf; rw [hy1, zac, zac, hy3]; simp only [Bool.not_false, za0]; rw [hy2, zac, hz1, zac, hlen, zac, hz2, hf, zac]; rfl
 have hfl : zbx cl.flatten = cl.length * sz := by rw [zbb]; exact zf0 hall
 have ok : ziy z 0 0 cl.length cl.flatten = true := by
  unfold ziy; have h1 : Nat.blt (0 + cl.length + 0) 1000000000 = true := zdh.2 (by omega)
  have h2 : Nat.blt ((0 + cl.length + 0) * z.bytes) 1000000000 = true := zdh.2 (by
   have := Nat.mul_le_mul (show 0 + cl.length + 0 <= 1000000 by omega) hz4
   omega)
  have h3 : Nat.blt z.bytes 1000000000 = true := zdh.2 (by omega)
  have h4 : (!Nat.beq z.size 0) = true := by
   cases hq : Nat.beq z.size 0 with
   | true => have := zc1.1 hq; omega
   | false => rfl
  have h5 : Nat.beq (zbx cl.flatten) (cl.length * z.size) = true := by rw [hfl, hz2]; exact zc1.2 rfl
  have h6 : Nat.beq (zbx z.zero) z.size = true := by rw [hz3, hz2]; exact zc1.2 rfl
  rw [h1, h2, h3, h4, h5, h6]; rfl
 have hfn : tf.get n = none := by
  cases hq : tf.get n with
  | none => rfl
  | some u => rw [ht _ _ hq] at hn; cases hn
 by_cases h0 : cl.length = 0
 ·have : cl = [] := ybd.1 h0
  subst this; refine ⟨.nilslice, n, t, tf, ?_, ⟨[], .inl ⟨rfl, rfl⟩, hd⟩, TLe.refl _, ht, TLe.refl _, Off.refl _ _, Off.refl _ _⟩
  rw [base]; rfl
 ·have hb : Nat.beq cl.length 0 = false := by
   cases hq : Nat.beq cl.length 0 with
   | true => exact absurd (zc1.1 hq) h0
   | false => rfl
  refine ⟨.slice n 0 cl.length cl.length, n + 1, t.set n (.cells (Tr.ofList cl.flatten) (zbx cl.flatten) (some z.size)), tf.set n (.cells (Tr.ofList cl.flatten) (zbx cl.flatten) (some z.size)), ?_, ⟨cl, zmt hall (by rw [Tr.get_set, if_pos rfl]) (.inr (by rw [hz2])), RDs.mono (zc9 hfn _).1 _ _ hd⟩, (zc9 hfn _).1, fun k u hk => ?_, (zc9 hn _).1, (zc9 hn _).2, (zc9 hfn _).2⟩
  ·rw [base]
   unfold zff; rw [hb, cond_false, ok]; rfl
  ·rw [Tr.get_set] at hk ⊢
   split at hk
   ·rename_i e; rw [if_pos e]; exact hk
   ·rename_i e; rw [if_neg e]; exact ht _ _ hk
theorem zzu {T el b k m cap n : Nat} {cs : List zab} {lo : Option Nat} {x : zab} {cm : List (List zab)} (hT : zxl C T el 1) (hc : Cel t b lo cs) (hb : C.base <= b) (hx : zho t 1 x cm) (hm : cm.length = m) (h0 : 0 < m) (hk : k + m <= cap) (hcap : cap <= cs.length) (hone : ∀ a ∈ cm.flatten, zab.one a = true) :
  ∃ t', zbf C T T (.slice b 0 k cap) x ⟨n, t⟩ = some (.slice b 0 (k + m) cap, ⟨n, t'⟩) /\ Cel t' b lo (zic cs k cm.flatten) /\ Off b t t' := by
 obtain ⟨⟨y, hy1, hy2, hy3⟩, ⟨z, hz1, hz2, hz3, hz4, hz5⟩⟩ := hT
 obtain ⟨hf, hlen⟩ := hx.first (n := n)
 have hfl := zf0 hx.len
 rw [Nat.mul_one, hm] at hfl; obtain ⟨c, h1, h2⟩ := hc
 have hne : cm.flatten ≠ [] := by intro e; rw [e] at hfl; simp at hfl; omega
 refine ⟨t.set b (.cells (c.setMany cm.flatten k) cs.length lo), ?_, ⟨c.setMany cm.flatten k, by rw [Tr.get_set, if_pos rfl, zmg (by omega)], fun j a hj => ?_⟩, fun d hd => by rw [Tr.get_set, if_neg hd]⟩
 ·unfold zbf zgf
  rw [hy1, zac, zac, hy3]; simp only [Bool.not_false, za0]; rw [hy2, zac, hz1, zac, hlen, zac, hz2, hf, zac]; simp only [zab.asSlice, hm]; rw [zjz.2 hk, cond_true]
  unfold zfz
  cases hq : cm.flatten with
  | nil => exact absurd hq hne
  | cons a r =>
   simp only [hz2, Nat.mul_one, yax]; rw [<- hq]; unfold zhx za1; have e2 : (!Nat.blt b C.base) = true := by
    cases hq : Nat.blt b C.base with
    | true => have := zdh.1 hq; omega
    | false => rfl
   rw [e2, za0, h1, zac]; simp only [zal.asCells, zac]; have e3 : Nat.ble (k + zbx cm.flatten) cs.length = true := by rw [zbb]; exact zjz.2 (by omega)
   have e4 : zd7 zab.one cm.flatten = true := by rw [zcc]; exact ybc.2 hone
   rw [e3, e4]; rfl
 ·rw [zj7 (by omega)] at hj
  rw [Tr.get_setMany]; split
  ·rename_i e; rw [if_pos e] at hj; exact hj
  ·rename_i e; rw [if_neg e] at hj; exact h2 j a hj
def zgj (l : List Nat) : List zab := l.map fun (n : Nat) => zab.int .u8 (n : Int)
theorem z3u {S Dt b k cap el : Nat} {cs : List zab} {lo : Option Nat} {l : List Nat} {yS yD yE : ATy} (hS : C.tys.get S = some yS) (hD : C.tys.get Dt = some yD) (h1 : yD.desc.asInt = none) (h2 : yD.desc.isString = true) (h3 : yS.desc.asSlice = some el) (h4 : C.tys.get el = some yE) (h5 : yE.desc.asInt = some .u8)
  (hc : Cel t b lo cs) (hk : l.length = k) (hl : ∀ (j : Nat) x, l[j]? = some x -> cs[j]? = some (.int .u8 (x : Int))) (hlt : za6 256 l) : zl4 C S Dt ⟨0, t⟩ (.slice b 0 k cap) = some (.str l) := by
 obtain ⟨c, g1, g2⟩ := hc
 unfold zl4 znw; rw [hS, zac, hD, zac, h1]; simp only []; rw [h2, za0]; have e1 : Nat.beq (zab.slice b 0 k cap).tag 2 = false := rfl
 rw [e1, cond_false, h3, zac, h4, zac, h5, zac, ze2.2 rfl, za0]; unfold zi2; simp only [zab.asSlice]; unfold za1; rw [g1, zac]; simp only [zal.asCells, zac]
 have hm : ∀ (l : List Nat) (off : Nat), (∀ (j : Nat) x, l[j]? = some x -> c.get (off + j) = some (.int .u8 (x : Int))) -> c.many l.length off = some (zgj l) := by
  intro l; induction l with
  | nil => intro off _; rfl
  | cons x l ih =>
   intro off h; rw [yao, Tr.many_succ]; have := h 0 x rfl
   rw [Nat.add_zero] at this; rw [this, zac, ih (off + 1) (fun j y hj => by rw [show off + 1 + j = off + (j + 1) by omega]; exact h (j + 1) y (by simpa using hj)), zac]
   rfl
 subst hk; rw [hm l 0 (fun j x hj => by rw [yax]; exact g2 _ _ (hl j x hj)), zac]
 have hb : ∀ (l : List Nat), za6 256 l -> zgb zki (zgj l) = some l := by
  intro l; induction l with
  | nil => intro _; rfl
  | cons x l ih =>
   intro h; have e : zki (.int .u8 (x : Int)) = some x := by
    unfold zki; have e1 : zj9 (x : Int) = some x := rfl
    simp only [zab.asIntK, zac]; rw [ze2.2 rfl, za0, e1, zac, zdh.2 (h x (by simp))]; rfl
   show zgb zki (.int .u8 (x : Int) :: zgj l) = _
   rw [zdd, e, zac, ih fun y hy => h y (by simp [hy]), zac]
 rw [hb l hlt, zac]
theorem z7i {T el cap : Nat} {y z : ATy} {k : IntKind} (hT : C.tys.get T = some y) (hel : y.desc.asSlice = some el) (hz : C.tys.get el = some z) (hzero : z.zero = [.int k 0]) (hs : z.size = 1) (hby : z.bytes <= 8) (hn : cap < 1000000) {b : Nat} (hb : t.get b = none) :
  ∃ t', zcg C T (.int .i64 0) (.int .i64 (cap : Int)) ⟨b, t⟩ = some (.slice b 0 0 cap, ⟨b + 1, t'⟩) /\ Cel t' b none (List.replicate cap (.int k 0)) /\ TLe t t' /\ Off b t t' := by
 have hrep : ∀ n, zsf [zab.int k 0] n = List.replicate n (.int k 0) := by
  intro n; induction n with
  | zero => rfl
  | succ n ih => unfold zsf; rw [ih, zck, List.replicate_succ]; rfl
 obtain ⟨t', h1, h2, h3, h4⟩ := zqf hb (List.replicate cap (.int k 0)) none
 refine ⟨t', ?_, h2, h3, h4⟩
 unfold zcg; rw [hT, zac, hel, zac, hz, zac]; have e1 : (zab.int .i64 (cap : Int)).asNat = some cap := rfl
 have e0 : (zab.int .i64 0).asNat = some 0 := rfl
 rw [e1, e0, zac, zac]; have e2 : (Nat.ble 0 cap && Nat.blt cap 1000000 && Nat.blt (cap * z.bytes) 1000000000 && Nat.beq (zbx z.zero) z.size) = true := by
  rw [hzero, hs, show Nat.ble 0 cap = true from zjz.2 (Nat.zero_le _), zdh.2 hn]
  have : cap * z.bytes < 1000000000 := by
   have := Nat.mul_le_mul (Nat.le_of_lt hn) hby
   omega
  rw [zdh.2 this]; rfl
 rw [e2, za0, hzero, hrep, h1]
end
end Go.Am
namespace Go.Proofs
open Go Go.Am
variable [zcm]
variable {t : Tr zal}
def zzq (b : Bool) : List Nat := if b then [116, 114, 117, 101] else [102, 97, 108, 115, 101]
def zfi : List Nat -> List Nat
 | [] => []
 | x :: l => x / 256 :: x % 256 :: zfi l
def keyW (w : zdn) : List Nat := 44 :: zzq w.neg ++ zyz ((2 * w.limbs.length : Nat) : Int) ++ [44] ++ zfi w.limbs
def zba (v : zc8) : List Nat := zyz (v.kind : Int) ++ [44] ++ zyz v.i ++ keyW v.f.n ++ keyW v.f.d
theorem zi3 : ∀ l, (zfi l).length = 2 * l.length
 | [] => rfl
 | x :: l => by simp [zfi, zi3 l]; omega
theorem zs6 : ∀ (l : List Nat) (x : Nat), zfi (l ++ [x]) = zfi l ++ [x / 256, x % 256]
 | [], x => rfl
 | y :: l, x => by simp [zfi, zs6 l x]
theorem zw5 : ∀ {l : List Nat}, za6 65536 l -> za6 256 (zfi l)
 | [], _ => fun x hx => (by cases hx)
 | y :: l, h => fun x hx => by
  have hy := h y (by simp)
  simp only [zfi, yat] at hx; rcases hx with rfl | rfl | hx
  ·omega
  ·omega
  ·exact zw5 (l := l) (fun z hz => h z (by simp [hz])) x hx
theorem zo6 {n : Int} (h0 : -9223372036854775808 <= n) (h1 : n < 9223372036854775808) : (zyz n).length <= 21 := by
 unfold zyz; rw [yag]; exact Lib.itoa_length_le n h0 (by omega)
theorem zyy {n : Int} (h0 : -9223372036854775808 <= n) (h1 : n < 9223372036854775808) : pvC C19 F 291 [.int .i64 n] t = some (.str (zyz n)) := by
 have hg : C19.prims.get 291 = some z65 := by kernel_rfl
 refine ztw hg fun H => ?_
 unfold z65; simp only []; rw [zc4.2 h0, zax.2 h1]; rfl
theorem zzcz {b : Bool} : pvC C19 F 246 [.bool b] t = some (.str (zzq b)) := by
 refine zbj.2 (w246 _ ?_)
 simp only [t246, wpT, q287]; refine w287 _ ?_
 cases b <;> simp only [t287, wpT, if_true, yar, if_false, zca, zaa] <;> (first | exact ⟨rfl, rfl⟩ | exact ⟨rfl, trivial⟩ | trivial)
theorem zls {a b : List Nat} (h : a.length + b.length < 4611686018427387904) : z6g a b = some (.str (a ++ b)) := by
 unfold z6g; rw [zbb, zbb, zdh.2 h, zck]; rfl
theorem el188 : zxl C19 188 5 1 := ⟨⟨_, zzax, rfl, rfl⟩, ⟨_, ty5, rfl, rfl, by decide, by decide⟩⟩
theorem z8d {s : List Nat} {f : zek} {fa fb : zab} {j : Nat} {w : zdn} {u : zab} {b : Nat} {t0 : Tr zal} {Q : zaw} (hu : RSl t0 1 (zd8 w.limbs) u) (hl : w.limbs.length < 400) (hlt : za6 65536 w.limbs) (hs : s.length < 4000) (hbase : C19.base <= b) (hb : t0.get b = none)
  (hQ : ∀ t', TLe t0 t' -> jp 276 2 [.str (s ++ keyW w), .agg [.bool f.n.neg, fa, .bool f.d.neg, fb], .int .i64 (zah .i64 ((j : Int) + 1))] t' Q) :
  ∀ (m i : Nat) (t' : Tr zal), i + m = w.limbs.length -> TLe t0 t' -> Cel t' b none (zgj (zfi (w.limbs.take i)) ++ List.replicate (2 * m + 1) (.int .u8 0)) →
  jp 276 6 [.str s, .slice b 0 (2 * i) (2 * w.limbs.length + 1), .agg [.bool f.n.neg, fa, .bool f.d.neg, fb], .int .i64 (j : Int), u, .int .i64 (w.limbs.length : Int), .int .i64 (i : Int), .bool w.neg, u] t' Q := by
 intro m; induction m with
 | zero =>
  intro i t' hi ht hc; refine zzez _ _ _ _ _ _ _ _ _ _ _ _ ?_
  rw [ybb (by omega)] at hc
  have lv : za9 (.slice b 0 (2 * i) (2 * w.limbs.length + 1)) = some (.int .i64 ((2 * w.limbs.length : Nat) : Int)) := by
   have : i = w.limbs.length := by omega
   subst this; rfl
  have cv : zl4 C19 188 9 ⟨0, t'⟩ (.slice b 0 (2 * i) (2 * w.limbs.length + 1)) = some (.str (zfi w.limbs)) := by
   refine z3u zzax ty9 rfl rfl rfl ty5 rfl hc (by rw [zi3]; omega) (fun k x hk => ?_) (zw5 hlt)
   rw [List.getElem?_append_left (by simp [zgj, (yad.1 hk).1])]
   simp [zgj, hk]
  have hlb := zi3 w.limbs
  have hli := zo6 (n := ((2 * w.limbs.length : Nat) : Int)) (by omega) (by omega)
  have hbt : (zzq w.neg).length <= 5 := by unfold zzq; split <;> simp
  simp only [z5v, wpT, zax]; rw [if_neg (by omega)]
  simp only [lv, cv, zaa, zag, zca, ze9, zo1, if_true, q246, zzcz]; rw [zls (a := [44]) (b := zzq w.neg) (by simp; omega)]
  simp only [zaa, zca, q291]; rw [zyy (by omega) (by omega)]
  simp only [zaa, zca, cv, zo1, if_true]; rw [zls (by simp only [yah, yao, yay]; omega)]
  simp only [zaa, zca]; rw [zls (by simp only [yah, yao, yay]; omega)]
  simp only [zaa, zca]; rw [zls (by simp only [yah, yao, yay]; omega)]
  simp only [zaa, zca]; rw [zls (by simp only [yah, yao, yay]; omega)]
  simp only [zaa, zca]; exact hQ t' ht
 | succ m ih =>
  intro i t' hi ht hc; have hlt1 : i < w.limbs.length := by omega
  obtain ⟨x, hx⟩ := getElem?_of_lt hlt1
  have hx16 : x < 65536 := zbv hlt hx
  obtain ⟨p, off, g1, g2⟩ := RSl.idx (C := C19) zzbf (hu.mono ht) hx
  refine zzez _ _ _ _ _ _ _ _ _ _ _ _ ?_
  simp only [z5v, wpT, zax]; have e1 : zah .u8 (Int.fdiv (x : Int) 256) = ((x / 256 : Nat) : Int) := by
   rw [show Int.fdiv (x : Int) 256 = ((x / 256 : Nat) : Int) from zey _ 256, z4j (by omega) (by omega)]
  have e2 : zah .u8 (x : Int) = ((x % 256 : Nat) : Int) := by
   have : zah .u8 (x : Int) = (x : Int) % 256 := by rw [zc0]; simp only [IntKind.wrap, IntKind.bits, IntKind.signed]; simp
   rw [this]; omega
  rw [if_pos (by omega), g1, zaa, g2, zaa, zag, zaa, e1, e2]
  intro n hn _; obtain ⟨t1, a1, a2, a3, a4⟩ := zhg (C := C19) (T := 188) (el := 5) (sz := 1) (n := 2) (cl := [[.int .u8 ((x / 256 : Nat) : Int)], [.int .u8 ((x % 256 : Nat) : Int)]]) (ps := [(0, .int .u8 ((x / 256 : Nat) : Int)), (1, .int .u8 ((x % 256 : Nat) : Int))]) zzax rfl ty5 rfl rfl (by decide) rfl (fun i cs hi => by
   rcases i with _ | _ | i
   ·simp at hi; subst hi; rfl
   ·simp at hi; subst hi; rfl
   ·simp at hi) rfl hn
  have hbn : b ≠ n := by
   intro e; subst e; obtain ⟨c, hc1, _⟩ := hc
   rw [hc1] at hn; cases hn
  rw [a1, zaa]; intro k _ _; have htl : (w.limbs.take i).length = i := by simp; omega
  have hbl : (zgj (zfi (w.limbs.take i))).length = 2 * i := by simp [zgj, zi3, htl]
  obtain ⟨t2, b1, b2, b3⟩ := zzu (C := C19) (n := k) (k := 2 * i) (m := 2) (cap := 2 * w.limbs.length + 1) el188 (hc.off (a4 b hbn)) hbase a2 rfl (by decide) (by omega) (by simp [hbl]; omega) (by
   intro a ha; simp only [List.flatten_cons, List.flatten_nil, ybe, List.singleton_append, yat, List.not_mem_nil, or_false] at ha; rcases ha with rfl | rfl <;> rfl)
  have b1' : zbf C19 188 188 (.slice b 0 (2 * i) (2 * w.limbs.length + 1)) (.slice n 0 2 2) ⟨k, t1⟩ = some (.slice b 0 (2 * i + 2) (2 * w.limbs.length + 1), ⟨k, t2⟩) := b1
  rw [b1', zaa, zak (by omega) (by omega)]
  have hcells : zic (zgj (zfi (w.limbs.take i)) ++ List.replicate (2 * (m + 1) + 1) (.int .u8 0)) (2 * i) [.int .u8 ((x / 256 : Nat) : Int), .int .u8 ((x % 256 : Nat) : Int)] = zgj (zfi (w.limbs.take (i + 1))) ++ List.replicate (2 * m + 1) (.int .u8 0) := by
   have hdr : (zgj (zfi (w.limbs.take i)) ++ List.replicate (2 * (m + 1) + 1) (zab.int .u8 0)).drop (2 * i + 2) = List.replicate (2 * m + 1) (.int .u8 0) := by
    rw [List.drop_append, List.drop_of_length_le (by omega), hbl, List.nil_append, List.drop_replicate]; congr 1; omega
   unfold zic; rw [List.take_left' hbl]; show zgj (zfi (w.limbs.take i)) ++ ([.int .u8 ((x / 256 : Nat) : Int), .int .u8 ((x % 256 : Nat) : Int)] ++ (zgj (zfi (w.limbs.take i)) ++ List.replicate (2 * (m + 1) + 1) (zab.int .u8 0)).drop (2 * i + 2)) = _
   rw [hdr, ze8 hx, zs6]; unfold zgj; rw [List.map_append, yba]; rfl
  have b2' : Cel t2 b none (zgj (zfi (w.limbs.take (i + 1))) ++ List.replicate (2 * m + 1) (.int .u8 0)) := by rw [<- hcells]; exact b2
  have := ih (i + 1) t2 (by omega) ((ht.trans a3).off hb b3) b2'
  rw [show 2 * (i + 1) = 2 * i + 2 by omega, show ((i + 1 : Nat) : Int) = (i : Int) + 1 by omega] at this
  exact this
theorem zwg {s : List Nat} {f : zek} {fa fb : zab} {j : Nat} {w : zdn} {u : zab} {Q : zaw} (hj : j < 2) (hv : zjo C19 325 (.agg [.bool f.n.neg, fa, .bool f.d.neg, fb]) (.int .i64 (j : Int)) = some (.agg [.bool w.neg, u])) (hu : RSl t 1 (zd8 w.limbs) u) (hl : w.limbs.length < 400) (hlt : za6 65536 w.limbs) (hs : s.length < 4000)
  (hQ : ∀ t', TLe t t' -> jp 276 2 [.str (s ++ keyW w), .agg [.bool f.n.neg, fa, .bool f.d.neg, fb], .int .i64 ((j + 1 : Nat) : Int)] t' Q) : jp 276 2 [.str s, .agg [.bool f.n.neg, fa, .bool f.d.neg, fb], .int .i64 (j : Int)] t Q := by
 refine zze0 _ _ _ _ _ _ ?_
 simp only [z5w, wpT, zax]; have hz : zoy [(.bool false), .nilslice] (.agg [.bool w.neg, u]) = some (cellsOf [.bool w.neg, u]) := zfl (by
  show (true && (zjy .nilslice u && true)) = true
  rw [zbi hu]; rfl)
 have hone : zd7 zab.one [.bool w.neg, u] = true := by rw [zcc]; simp only [ybh, List.all_nil, hu.one]; rfl
 rw [if_pos (by omega), hv, zaa, hz, zaa]
 simp only [cellsOf, zdk, zfn, yaa, yab]; refine zbp hone ?_
 rw [hu.len, zjj, zaa, zag, zaa]; have e1 : zah .i64 (zah .i64 (2 * (w.limbs.length : Int)) + 1) = ((2 * w.limbs.length + 1 : Nat) : Int) := by
  rw [zak (n := 2 * (w.limbs.length : Int)) (by omega) (by omega), zak (by omega) (by omega)]; omega
 rw [e1]; intro b hb hbase; obtain ⟨t', g1, g2, g3, _⟩ := z7i (C := C19) (k := .u8) (cap := 2 * w.limbs.length + 1) zzax rfl ty5 rfl rfl (by decide) (by omega) hb
 rw [g1, zaa, zaa, zag, zaa]; have ej : zah .i64 ((j : Int) + 1) = ((j + 1 : Nat) : Int) := by rw [zak (by omega) (by omega)]; omega
 exact z8d (f := f) (j := j) hu hl hlt hs hbase hb (fun t2 h2 => by rw [ej]; exact hQ t2 h2) w.limbs.length 0 t' (by omega) g3 (by simpa [zfi, zgj] using g2)
def zc8.short (v : zc8) : Prop := v.f.n.limbs.length < 400 /\ v.f.d.limbs.length < 400
theorem key_ok {v : zc8} {a b : zab} (hv : v.fit) (hs : zc8.short v) (ha : RSl t 1 (zd8 v.f.n.limbs) a) (hb : RSl t 1 (zd8 v.f.d.limbs) b) : pvC C19 F 276 [.agg [.int .u8 v.kind, .bool v.f.n.neg, a, .bool v.f.d.neg, b, .int .i64 v.i]] t = some (.str (zba v)) := by
 obtain ⟨h1, h2, h3, h4⟩ := hv
 obtain ⟨_, hn, hd⟩ := h2
 have l1 := zo6 (n := (v.kind : Int)) (by omega) (by omega)
 have l2 := zo6 h3 h4
 have hk : zah .i64 (v.kind : Int) = (v.kind : Int) := zak (by omega) (by omega)
 have v0 : zjo C19 325 (.agg [.bool v.f.n.neg, a, .bool v.f.d.neg, b]) (.int .i64 ((0 : Nat) : Int)) = some (.agg [.bool v.f.n.neg, a]) := by kernel_rfl
 have v1 : zjo C19 325 (.agg [.bool v.f.n.neg, a, .bool v.f.d.neg, b]) (.int .i64 ((0 + 1 : Nat) : Int)) = some (.agg [.bool v.f.d.neg, b]) := by kernel_rfl
 have lk : (keyW v.f.n).length < 1000 := by
  have hbt : (zzq v.f.n.neg).length <= 5 := by unfold zzq; split <;> simp
  have hli := zo6 (n := ((2 * v.f.n.limbs.length : Nat) : Int)) (by omega) (by have := hs.1; omega)
  have := hs.1
  unfold keyW; simp [zi3]
  simp at hli; omega
 refine z2y (w276 _ _ _ _ _ _ ?_)
 simp only [t276, wpT, hk]; rw [q291, zyy (by omega) (by omega), zaa, zca, zaa, if_pos ze9, zls (by simp only [yah, yao, yay]; omega), zaa, zca, zaa, q291, zyy h3 h4, zaa, zca, zaa, zls (by simp only [yah, yao, yay]; omega), zaa, zca, zaa]
 simp only [if_true]; refine zwg (f := v.f) (j := 0) (w := v.f.n) (by omega) v0 ha hs.1 hn (by simp; omega) fun t1 k1 => ?_
 refine zwg (f := v.f) (j := 0 + 1) (w := v.f.d) (by omega) v1 (hb.mono k1) hs.2 hd (by simp; omega) fun t2 k2 => ?_
 refine zze0 _ _ _ _ _ _ ?_
 simp only [z5w, wpT, zax]; rw [if_neg (by omega)]
 exact ⟨by unfold zba; rfl, k1.trans k2⟩
end Go.Proofs
