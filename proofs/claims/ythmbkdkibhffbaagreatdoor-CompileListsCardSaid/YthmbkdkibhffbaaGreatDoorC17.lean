/- The translator: names and constants. -/
import Derived.Test.YthmbkdkibhffbaaGreatDoorC16
set_option linter.all false
noncomputable section
set_option maxRecDepth 100000
namespace Go.Proofs
open Go Go.Am
variable [zcf]
variable {t tf : Tr zal} {key : zcg -> List Nat} {r : TR} {s : XSt}
theorem _root_.Go.Am.Objs.copy {base : Nat} {L : List Thg} (h : Objs base tf t L) {n : Nat} {t' tf' : Tr zal} (hn : t.get n = none) (h1 : TLe tf tf') (h2 : TLe tf' t') (h3 : Off n t t') (h4 : Off n tf tf') : Objs base tf' t' L :=
 h.keep h1 h2 fun k hk => by
  have : k ≠ n := fun e => h.fresh hn (e ▸ hk)
  exact ⟨h3 k this, by rw [h4 k this]; exact (h.low k hk).2⟩
theorem z1e {w : zdq} {u : zab} (hu : RSl t 1 (zd2 w.limbs) u) : RD t w.d [.bool w.neg, u] := by
 unfold zdq.d; rw [zig]; refine ⟨[[.bool w.neg], [u]], rfl, ?_⟩
 simp only [zbc, zbv, zih, zk9]; exact ⟨_, _, rfl, rfl, _, _, rfl, ⟨u, rfl, hu⟩, rfl⟩
theorem z7q {f : zem} {u v : zab} (hu : RSl t 1 (zd2 f.n.limbs) u) (hv : RSl t 1 (zd2 f.d.limbs) v) : RD t f.dd [.bool f.n.neg, u, .bool f.d.neg, v] := by
 unfold zem.dd; rw [zig]; refine ⟨[[.bool f.n.neg, u], [.bool f.d.neg, v]], rfl, ?_⟩
 rw [zbc]; refine ⟨_, _, rfl, z1e hu, ?_⟩
 rw [zbc]; exact ⟨_, _, rfl, z1e hv, zbv.2 rfl⟩
theorem zzey {x : zcg} {u v : zab} (hu : RSl t 1 (zd2 x.f.n.limbs) u) (hv : RSl t 1 (zd2 x.f.d.limbs) v) : RD t x.d [.int .u8 x.kind, .bool x.f.n.neg, u, .bool x.f.d.neg, v, .int .i64 x.i] := by
 unfold zcg.d; rw [zig]; refine ⟨[[.int .u8 x.kind], [.bool x.f.n.neg, u, .bool x.f.d.neg, v], [.int .i64 x.i]], rfl, ?_⟩
 rw [zbc]; refine ⟨_, _, rfl, zgk.2 rfl, ?_⟩
 rw [zbc]; refine ⟨_, _, rfl, z7q hu hv, ?_⟩
 rw [zbc]; exact ⟨_, _, rfl, zgk.2 rfl, zbv.2 rfl⟩
theorem el41 : zxq C19 41 227 1 := ⟨⟨_, ty41, rfl, rfl⟩, ⟨_, z2q, rfl, rfl, by decide, by decide⟩⟩
theorem z9y {L : List Thg} {v : zcg} {a b : zab} {Q : zaw} (h : Objs C19.base tf t L) (hs : zcg.short v) (ha : RSl tf 1 (zd2 v.f.n.limbs) a) (hb : RSl tf 1 (zd2 v.f.d.limbs) b)
  (hQ : ∀ tf' t' a' b', TLe tf tf' -> Objs C19.base tf' t' L -> RSl tf' 1 (zd2 v.f.n.limbs) a' -> RSl tf' 1 (zd2 v.f.d.limbs) b' -> Q (.agg [.int .u8 v.kind, .bool v.f.n.neg, a', .bool v.f.d.neg, b', .int .i64 v.i]) t') :
  Wc C19 F 102 [.agg [.int .u8 v.kind, .bool v.f.n.neg, a, .bool v.f.d.neg, b, .int .i64 v.i]] t Q := by
 refine w102 _ _ _ _ _ _ ?_
 simp only [t102, wpT]; intro n hn _; obtain ⟨a', k, t1, tf1, g1, g2, g3, g4, _, g6, g7⟩ := zoq (C := C19) el41 ha h.tle (by rw [zjl]; have := hs.1; omega) hn
 have h1 := h.copy hn g3 g4 g6 g7
 have o1 : zeb zab.one [a'] = true := by rw [zcb]; simp only [ybh, List.all_nil, g2.one]; rfl
 rw [g1, zaa, if_pos o1]; intro m hm _; obtain ⟨b', k', t2, tf2, m1, m2, m3, m4, _, m6, m7⟩ := zoq (C := C19) el41 (hb.mono g3) h1.tle (by rw [zjl]; have := hs.2; omega) hm
 have h2 := h1.copy hm m3 m4 m6 m7
 have o2 : zeb zab.one [b'] = true := by rw [zcb]; simp only [ybh, List.all_nil, m2.one]; rfl
 have o3 : zeb zab.one [.int .u8 v.kind, .bool v.f.n.neg, a', .bool v.f.d.neg, b', .int .i64 v.i] = true := by rw [zcb]; simp only [ybh, List.all_nil, g2.one, m2.one]; rfl
 rw [m1, zaa, if_pos o2, if_pos o3]; exact hQ tf2 t2 a' b' (g3.trans m3) h2 (g2.mono m3) m2
theorem zql {m : Nat} {l : List (List Nat)} {k : List Nat} (h : t.get m = some (.map (zay 0 l))) : zia C19 107 ⟨0, t⟩ (.map m) (.str k) true = some (if k ∈ l then .tup [.int .i64 ((zqq k l : Nat) : Int), .bool true] else .tup [.int .i64 0, .bool false]) := by
 unfold zia; rw [zza7, zac]; simp only [zct.asMap, zac]; rw [ty9, zac, ty3]; simp only [zac]; unfold zrv zgj; simp only [zab.asMap]; rw [h, zac]; simp only [zal.asMap, zac]
 rw [zs3, yax]; by_cases hk : k ∈ l
 ·rw [if_pos hk, if_pos hk]; rfl
 ·rw [if_neg hk, if_neg hk]; rfl
theorem zpk {m : Nat} {l : List (List Nat)} {k : List Nat} (h : t.get m = some (.map (zay 0 l))) (hb : C19.base <= m) (hk : k ∉ l) :
  ∃ t', (∀ n, zj4 C19 107 (.map m) (.str k) (.int .i64 (l.length : Int)) ⟨n, t⟩ = some (zbr, ⟨n, t'⟩)) /\ t'.get m = some (.map (zay 0 (l ++ [k]))) /\ Off m t t' := by
 refine ⟨t.set m (.map (zay 0 (l ++ [k]))), fun n => ?_, by rw [Tr.get_set, if_pos rfl], fun c hc => by rw [Tr.get_set, if_neg hc]⟩
 unfold zj4; rw [zza7, zac]; simp only [zct.asMap, zac]; rw [ty9, zac]; simp only [zab.asMap, zac]; have e2 : (!Nat.blt m C19.base) = true := by
  cases hq : Nat.blt m C19.base with
  | true => have := zdl.1 hq; omega
  | false => rfl
 have := zob l 0 hk
 rw [yax] at this; unfold zgj; rw [e2, zaz, h, zac]; simp only [zal.asMap, zac]; rw [this, zac]; rfl
theorem el30 : zxq C19 30 9 1 := ⟨⟨_, ty30, rfl, rfl⟩, ⟨_, ty9, rfl, rfl, by decide, by decide⟩⟩
theorem el31 : zxq C19 31 47 6 := ⟨⟨_, ty31, rfl, rfl⟩, ⟨_, ty47, rfl, rfl, by decide, by decide⟩⟩
theorem el32 : zxq C19 32 37 1 := ⟨⟨_, zzf9, rfl, rfl⟩, ⟨_, zza5, rfl, rfl, by decide, by decide⟩⟩
def addN (l : List (List Nat)) (n : List Nat) : List (List Nat) := if n ∈ l then l else l ++ [n]
def addC (key : zcg -> List Nat) (l : List zcg) (v : zcg) : List zcg := if key v ∈ l.map key then l else l ++ [v]
theorem zyz {n : List Nat} {Q : zaw} (h : TS key tf t r s) (hl : s.names.length < 300000)
  (hQ : ∀ t' r', r'.b = r.b -> r'.kp = r.kp -> TS key tf t' r' ⟨addN s.names n, s.consts, s.ws, s.ts, s.code⟩ -> Q (.int .i64 ((zqq n s.names : Nat) : Int)) t') : Wc C19 F 234 [.ptr r.b 0, .str n] t Q := by
 refine w234 _ _ ?_
 simp only [t234, wpT]; rw [zc7, zaa, zgc, zaa, zzfu, zaa, h.ldN, zaa]; simp only [zc7, zaa, zgc, zzh7, zzfu, h.ldM1]; rw [q277]; refine w277 _ _ _ _ ?_
 simp only [t277, wpT]; rw [zql h.map1, zaa]; have hlen : r.cells.length = 11 := by simp [TR.cells, h.pl]
 unfold addN at hQ; by_cases hk : n ∈ s.names
 ·rw [if_pos hk] at hQ ⊢
  simp only [zas, zab.asTup, zac, zbh, yaa, yab, zaa, zag, zax, Bool.not_true, yar, if_false]; intro m _ _; obtain ⟨t1, g1, g2, g3⟩ := h.cel.store1 (C := C19) h.baseB.1 (j := 4) (v := r.vn) ty30 rfl (by
   rcases h.ln with ⟨e, _⟩ | ⟨b, cl, c, e, _⟩ <;> rw [e] <;> rfl) h.ln.one (by omega)
  have es : r.cells.set 4 r.vn = r.cells := by
   have := zoe (p := r.pl) h.pl (l := [r.vn, r.vc, r.vw, r.vt, .map r.m1, .map r.m2, r.vk]) (k := 0) (v := r.vn)
   exact this
  rw [es] at g2; rw [g1, zaa]; refine hQ t1 r rfl rfl ⟨h.pl, ?_⟩
  exact Objs.upd (A := []) (o := zfp r.b none r.cells) h.os (fun k k1 _ => g3 k (fun e => k1 (by simp [zfp, e]))) (fun k hk => .inl hk) g2 (by simp [zfp]) (h.os.tle.off h.baseB.2 g3)
 ·rw [if_neg hk] at hQ ⊢
  simp only [zas, zab.asTup, zac, zbh, yaa, yab, zaa, zag, zax, Bool.not_false, if_true, h.ln.len, yag]; intro m0 _ _; have lowM : C19.base <= r.m1 /\ tf.get r.m1 = none := h.os.low r.m1 (by simp [tsL, zfp, zfx])
  obtain ⟨t1, a1, a2, a3⟩ := zpk h.map1 lowM.1 hk
  have o1 : Objs C19.base tf t1 ([zfp r.b none r.cells] ++ zfx r.m1 (zay 0 (s.names ++ [n])) :: [zfx r.m2 (zay 0 (s.consts.map key)), zau C19.base 1 (s.names.map D.str) r.vn, zau C19.base 6 (s.consts.map zcg.d) r.vc, zau C19.base 1 s.ws r.vw, zau C19.base 1 s.ts r.vt, zau C19.base 3 (s.code.map XIns.d) r.vk]) :=
   Objs.upd (o := zfx r.m1 (zay 0 s.names)) h.os (fun k k1 _ => a3 k (fun e => k1 (by simp [zfx, e]))) (fun k hk => .inl hk) a2 (by simp [zfx]) (h.os.tle.off lowM.2 a3)
  rw [a1, zaa]; intro n2 hn2 _; obtain ⟨t2, b1, b2, b3, b4⟩ := zhf (C := C19) (T := 30) (el := 9) (sz := 1) (n := 1) (cl := [[.str n]]) (ps := [(0, .str n)]) ty30 rfl ty9 rfl rfl (by decide) rfl (fun i cs hi => by
   cases i with
   | zero => simp at hi; subst hi; rfl
   | succ i => simp at hi) rfl hn2
  have o2 := o1.junk hn2 b4
  rw [b1, zaa]; intro n3 hn3 hb3; have ln2 : Loose C19.base tf t2 1 (s.names.map D.str) r.vn := o2.ok (zau C19.base 1 (s.names.map D.str) r.vn) (by simp)
  obtain ⟨t3, c1, c2, c3, c4⟩ := zf6 (C := C19) el30 (m := [.str n]) ln2 b2 (by simp [zbc, zbv, zkn]) (by intro a ha; simp at ha; subst ha; rfl) (by simp) (by simp; omega) hn3 hb3 o2.tle
  have ec : (s.names.map D.str).length + [D.str n].length = (s.names ++ [n]).length := by simp
  have hd : s.names.map D.str ++ [D.str n] = (s.names ++ [n]).map D.str := by simp
  rw [ec, hd] at c2; have o3 : Objs C19.base tf t3 ([zfp r.b none r.cells, zfx r.m1 (zay 0 (s.names ++ [n])), zfx r.m2 (zay 0 (s.consts.map key))] ++ zau C19.base 1 ((s.names ++ [n]).map D.str) (.slice n3 0 (s.names ++ [n]).length (s.names ++ [n]).length) :: [zau C19.base 6 (s.consts.map zcg.d) r.vc, zau C19.base 1 s.ws r.vw, zau C19.base 1 s.ts r.vt, zau C19.base 3 (s.code.map XIns.d) r.vk]) := by
   refine Objs.upd (o := zau C19.base 1 (s.names.map D.str) r.vn) o2 (fun k k1 k2 => c4 k ?_ (fun e => k1 (zgu.2 e))) (fun k hk => ?_) c2 (by simp [zau, zjy]) c3
   ·intro e; subst e; exact k2 (by simp [zau, zjy])
   ·have : k = n3 := by simpa [zau, zjy] using hk
    subst this; exact .inr ⟨hn3, hb3⟩
  rw [c1, zaa, ec]; simp only [zas, zab.asTup, zac, zbh, yaa, yab, zaa, zag]; intro m4 _ _; have cel3 : Cel t3 r.b none r.cells := o3.ok (zfp r.b none r.cells) (by simp)
  obtain ⟨t4, g1, g2, g3⟩ := cel3.store1 (C := C19) h.baseB.1 (j := 4) (v := .slice n3 0 (s.names ++ [n]).length (s.names ++ [n]).length) ty30 rfl rfl rfl (by omega)
  have es : r.cells.set 4 (.slice n3 0 (s.names ++ [n]).length (s.names ++ [n]).length) = TR.cells ⟨r.b, r.pl, .slice n3 0 (s.names ++ [n]).length (s.names ++ [n]).length, r.vc, r.vw, r.vt, r.vk, r.m1, r.m2⟩ := zoe (k := 0) h.pl
  rw [es] at g2; rw [g1, zaa, <- zmr hk]; refine hQ t4 ⟨r.b, r.pl, .slice n3 0 (s.names ++ [n]).length (s.names ++ [n]).length, r.vc, r.vw, r.vt, r.vk, r.m1, r.m2⟩ rfl rfl ⟨h.pl, ?_⟩
  exact Objs.upd (A := []) (o := zfp r.b none r.cells) o3 (fun k k1 _ => g3 k (fun e => k1 (by simp [zfp, e]))) (fun k hk => .inl hk) g2 (by simp [zfp]) (c3.off h.baseB.2 g3)
theorem zqz {v : zcg} {a b : zab} {Q : zaw} (h : TS za8 tf t r s) (hl : s.consts.length < 300000) (hv : v.fit) (hs : zcg.short v) (ha : RSl tf 1 (zd2 v.f.n.limbs) a) (hb : RSl tf 1 (zd2 v.f.d.limbs) b)
  (hQ : ∀ tf' t' r', TLe tf tf' -> r'.b = r.b -> r'.kp = r.kp -> TS za8 tf' t' r' ⟨s.names, addC za8 s.consts v, s.ws, s.ts, s.code⟩ -> Q (.int .i64 ((zqq (za8 v) (s.consts.map za8) : Nat) : Int)) t') : Wc C19 F 233 [.ptr r.b 0, .agg [.int .u8 v.kind, .bool v.f.n.neg, a, .bool v.f.d.neg, b, .int .i64 v.i]] t Q := by
 have hk0 := key_ok hv hs (ha.mono h.os.tle) (hb.mono h.os.tle)
 have hsame : same 10 (.agg [.int .u8 v.kind, .bool v.f.n.neg, a, .bool v.f.d.neg, b, .int .i64 v.i]) (.agg [.int .u8 v.kind, .bool v.f.n.neg, a, .bool v.f.d.neg, b, .int .i64 v.i]) = true := by
  show Am.same.sames 9 [.int .u8 v.kind, .bool v.f.n.neg, a, .bool v.f.d.neg, b, .int .i64 v.i] [.int .u8 v.kind, .bool v.f.n.neg, a, .bool v.f.d.neg, b, .int .i64 v.i] = true
  simp only [Am.same.sames, zfa, z6p, ha.same, hb.same, Bool.and_self]
 have sm : ∀ m d, same d (.map m) (.map m) = true := fun m d => by
  have e : ∀ n, Nat.beq n n = true := Nat.beq_refl
  cases d <;> (unfold Am.same; simp only [e, Bool.and_self])
 refine w233 _ _ _ _ _ _ _ ?_
 simp only [t233, wpT]; rw [zc7, zaa, zgc, zaa, zwv, zaa, h.ldC, zaa]; simp only [zc7, zaa, zgc, zzh6, zwv, h.ldM2]; rw [q276, hk0, zaa, zca, zaa]
 simp only [zaa, h.ldC, h.ldM2, h.lc.same, sm, hsame, if_true]; rw [q102]; refine z9y h.os hs ha hb fun tf1 t1 a' b' q1 q2 q3 q4 => ?_
 have h1 : TS za8 tf1 t1 r s := ⟨h.pl, q2⟩
 have hz : zrc [(.int .u8 0), (.bool false), .nilslice, (.bool false), .nilslice, (.int .i64 0)] (.agg [.int .u8 v.kind, .bool v.f.n.neg, a', .bool v.f.d.neg, b', .int .i64 v.i]) = some (cellsOf [.int .u8 v.kind, .bool v.f.n.neg, a', .bool v.f.d.neg, b', .int .i64 v.i]) := zhq (by
  show (true && (true && (zj1 .nilslice a' && (true && (zj1 .nilslice b' && true))))) = true
  rw [zbi q3, zbi q4]; rfl)
 rw [hz, zaa]; simp only [zaa, h1.ldC, h1.ldM2, h1.lc.same, sm, if_true, cellsOf, zde, ze6, zix, yaa, yab]; rw [q275]; refine w275 _ _ _ _ _ _ _ _ _ ?_
 simp only [t275, wpT]; rw [zql h1.map2, zaa]; have hlen : r.cells.length = 11 := by simp [TR.cells, h.pl]
 unfold addC at hQ; by_cases hk : za8 v ∈ s.consts.map za8
 ·rw [if_pos hk] at hQ ⊢
  simp only [zas, zab.asTup, zac, zbh, yaa, yab, zaa, zag, zax, Bool.not_true, yar, if_false, zc7, zgc, zwv]; intro m _ _; obtain ⟨t2, g1, g2, g3⟩ := h1.cel.store1 (C := C19) h.baseB.1 (j := 5) (v := r.vc) ty31 rfl (by
   rcases h.lc with ⟨e, _⟩ | ⟨b, cl, c, e, _⟩ <;> rw [e] <;> rfl) h.lc.one (by omega)
  have es : r.cells.set 5 r.vc = r.cells := by
   have := zoe (p := r.pl) h.pl (l := [r.vn, r.vc, r.vw, r.vt, .map r.m1, .map r.m2, r.vk]) (k := 1) (v := r.vc)
   exact this
  rw [es] at g2; rw [g1, zaa]; refine hQ tf1 t2 r q1 rfl rfl ⟨h.pl, ?_⟩
  exact Objs.upd (A := []) (o := zfp r.b none r.cells) h1.os (fun k k1 _ => g3 k (fun e => k1 (by simp [zfp, e]))) (fun k hk => .inl hk) g2 (by simp [zfp]) (h1.os.tle.off h1.baseB.2 g3)
 ·rw [if_neg hk] at hQ ⊢
  simp only [zas, zab.asTup, zac, zbh, yaa, yab, zaa, zag, zax, Bool.not_false, if_true, h1.lc.len, yag, zc7, zgc, zwv]; intro m0 _ _; have lowM : C19.base <= r.m2 /\ tf1.get r.m2 = none := h1.os.low r.m2 (by simp [tsL, zfp, zfx])
  obtain ⟨t2, a1, a2, a3⟩ := zpk h1.map2 lowM.1 hk
  rw [yag] at a1; have em : s.consts.map za8 ++ [za8 v] = (s.consts ++ [v]).map za8 := by simp
  rw [em] at a2; have o1 : Objs C19.base tf1 t2 ([zfp r.b none r.cells, zfx r.m1 (zay 0 s.names)] ++ zfx r.m2 (zay 0 ((s.consts ++ [v]).map za8)) :: [zau C19.base 1 (s.names.map D.str) r.vn, zau C19.base 6 (s.consts.map zcg.d) r.vc, zau C19.base 1 s.ws r.vw, zau C19.base 1 s.ts r.vt, zau C19.base 3 (s.code.map XIns.d) r.vk]) :=
   Objs.upd (o := zfx r.m2 (zay 0 (s.consts.map za8))) h1.os (fun k k1 _ => a3 k (fun e => k1 (by simp [zfx, e]))) (fun k hk => .inl hk) a2 (by simp [zfx]) (h1.os.tle.off lowM.2 a3)
  rw [a1, zaa]; intro n2 hn2 _; obtain ⟨t3, b1, b2, b3, b4⟩ := zhf (C := C19) (T := 31) (el := 47) (sz := 6) (n := 1) (cl := [[.int .u8 v.kind, .bool v.f.n.neg, a', .bool v.f.d.neg, b', .int .i64 v.i]]) (ps := [(0, .agg [.int .u8 v.kind, .bool v.f.n.neg, a', .bool v.f.d.neg, b', .int .i64 v.i])]) ty31 rfl ty47 rfl rfl (by decide) rfl (fun i cs hi => by
   cases i with
   | zero => simp at hi; subst hi; rfl
   | succ i => simp at hi) rfl hn2
  have o2 := o1.junk hn2 b4
  rw [b1, zaa]; intro n3 hn3 hb3; have ln2 : Loose C19.base tf1 t3 6 (s.consts.map zcg.d) r.vc := o2.ok (zau C19.base 6 (s.consts.map zcg.d) r.vc) (by simp)
  have hrd : RD tf1 v.d [.int .u8 v.kind, .bool v.f.n.neg, a', .bool v.f.d.neg, b', .int .i64 v.i] := zzey q3 q4
  obtain ⟨t4, c1, c2, c3, c4⟩ := zf6 (C := C19) el31 (m := [v.d]) ln2 b2 (by rw [zbc]; exact ⟨_, _, rfl, hrd, zbv.2 rfl⟩) (by
   intro x hx; simp only [List.flatten_cons, List.flatten_nil, ybe, yat, List.not_mem_nil, or_false] at hx; rcases hx with rfl | rfl | rfl | rfl | rfl | rfl
   ·rfl
   ·rfl
   ·exact q3.one
   ·rfl
   ·exact q4.one
   ·rfl) (by simp) (by simp; omega) hn3 hb3 o2.tle
  have ec : (s.consts.map zcg.d).length + [v.d].length = (s.consts ++ [v]).length := by simp
  have hd : s.consts.map zcg.d ++ [v.d] = (s.consts ++ [v]).map zcg.d := by simp
  rw [ec, hd] at c2; have o3 : Objs C19.base tf1 t4 ([zfp r.b none r.cells, zfx r.m1 (zay 0 s.names), zfx r.m2 (zay 0 ((s.consts ++ [v]).map za8)), zau C19.base 1 (s.names.map D.str) r.vn] ++ zau C19.base 6 ((s.consts ++ [v]).map zcg.d) (.slice n3 0 (s.consts ++ [v]).length (s.consts ++ [v]).length) :: [zau C19.base 1 s.ws r.vw, zau C19.base 1 s.ts r.vt, zau C19.base 3 (s.code.map XIns.d) r.vk]) := by
   refine Objs.upd (o := zau C19.base 6 (s.consts.map zcg.d) r.vc) o2 (fun k k1 k2 => c4 k ?_ (fun e => k1 (zgu.2 e))) (fun k hk => ?_) c2 (by simp [zau, zjy]) c3
   ·intro e; subst e; exact k2 (by simp [zau, zjy])
   ·have : k = n3 := by simpa [zau, zjy] using hk
    subst this; exact .inr ⟨hn3, hb3⟩
  rw [c1, zaa, ec]; simp only [zas, zab.asTup, zac, zbh, yaa, yab, zaa, zag, zc7, zgc, zwv]; intro m4 _ _; have cel3 : Cel t4 r.b none r.cells := o3.ok (zfp r.b none r.cells) (by simp)
  obtain ⟨t5, g1, g2, g3⟩ := cel3.store1 (C := C19) h.baseB.1 (j := 5) (v := .slice n3 0 (s.consts ++ [v]).length (s.consts ++ [v]).length) ty31 rfl rfl rfl (by omega)
  have es : r.cells.set 5 (.slice n3 0 (s.consts ++ [v]).length (s.consts ++ [v]).length) = TR.cells ⟨r.b, r.pl, r.vn, .slice n3 0 (s.consts ++ [v]).length (s.consts ++ [v]).length, r.vw, r.vt, r.vk, r.m1, r.m2⟩ := zoe (k := 1) h.pl
  rw [es] at g2; have ek : ((zqq (za8 v) (s.consts.map za8) : Nat) : Int) = (s.consts.length : Int) := by rw [zmr hk, yag]
  rw [g1, zaa, <- ek]; refine hQ tf1 t5 ⟨r.b, r.pl, r.vn, .slice n3 0 (s.consts ++ [v]).length (s.consts ++ [v]).length, r.vw, r.vt, r.vk, r.m1, r.m2⟩ q1 rfl rfl ⟨h.pl, ?_⟩
  exact Objs.upd (A := []) (o := zfp r.b none r.cells) o3 (fun k k1 _ => g3 k (fun e => k1 (by simp [zfp, e]))) (fun k hk => .inl hk) g2 (by simp [zfp]) (c3.off h1.baseB.2 g3)
end Go.Proofs
namespace Go.Proofs
open Go Go.Am
variable [zcf]
variable {t tf : Tr zal} {r : TR} {s : XSt}
def XSt.nt (s : XSt) : Nt := ⟨s.names, s.consts⟩
def XSt.put (s : XSt) (n : Nt) (l : List XIns) : XSt := ⟨n.names, n.consts, s.ws, s.ts, s.code ++ l⟩
theorem zzg5 (s : XSt) (n : List Nat) : s.nt.name n = ⟨addN s.names n, s.consts⟩ := by
 unfold Nt.name addN XSt.nt; split <;> rfl
theorem z1b (s : XSt) (v : zcg) : s.nt.const za8 v = ⟨s.names, addC za8 s.consts v⟩ := by
 unfold Nt.const addC XSt.nt; split <;> rfl
theorem zvz {x : zam} {a b c : zab} {Q : zaw} (h : TS za8 tf t r s) (hx : x.fit) (hsh : x.op = 1 -> zcg.short x.v) (hn : s.names.length < 300000) (hc : s.consts.length < 300000) (hk : s.code.length < 300000)
  (ha : RSl tf 1 (zd2 x.v.f.n.limbs) a) (hb : RSl tf 1 (zd2 x.v.f.d.limbs) b) (hcc : RSl tf 9 (x.args.map zam.d) c)
  (hQ : ∀ tf' t' r', TLe tf tf' -> r'.b = r.b -> r'.kp = r.kp -> TS za8 tf' t' r' (s.put (zd1 za8 x.op x.name x.v x.args.length s.nt).1 [(zd1 za8 x.op x.name x.v x.args.length s.nt).2]) -> Q (.tup []) t') :
  Wc C19 F 170 [.ptr r.b 0, .agg (zex x a b c)] t Q := by
 obtain ⟨op, name, v, args⟩ := x
 simp only [zam.op, zam.name, zam.v, zam.args] at ha hb hcc hQ hsh; unfold zam.fit at hx; obtain ⟨h1, h2, _, h3, h4, _⟩ := hx
 unfold zf9 at h4; have w : zah .i64 (op : Int) = (op : Int) := zak (by omega) (by omega)
 have fin : ∀ {tf1 t1 : Tr zal} {r1 : TR} {s1 : XSt} {i : XIns} {Q' : zaw}, TS za8 tf1 t1 r1 s1 -> r1.b = r.b -> s1.code.length < 300000 -> (∀ tf' t' r', TLe tf1 tf' -> r'.b = r1.b -> r'.kp = r1.kp -> TS za8 tf' t' r' (s1.put s1.nt [i]) -> Q' (.tup []) t') →
   Wq C19 F za2 168 [.ptr r.b 0, .int .u8 i.op, .int .i64 i.a, .int .i64 i.b] t1 fun _ t' => Q' (.tup []) t' := by
  intro tf1 t1 r1 s1 i Q' k1 k2 k3 k4; rw [zzer, <- k2]; exact zot k1 k3 fun tf' t' r' v p1 p2 p3 p4 _ => k4 tf' t' r' p1 p2 p3 p4
 have nm : ∀ {K : Int -> Prop} {Q' : zaw} {o : Nat} {y : Int}, (zd1 za8 op name v args.length s.nt) = (s.nt.name name, ⟨o, s.nt.nameI name, y⟩) →
   Wq C19 F za2 234 [.ptr r.b 0, .str name] t fun u t' => zed (zzcz .i64 u) fun n => Wq C19 F za2 168 [.ptr r.b 0, .int .u8 o, .int .i64 n, .int .i64 y] t' fun _ t' => Q (.tup []) t' := by
  intro K Q' o y he; rw [q234]; refine zyz h hn fun t1 r1 k1 k2 k3 => ?_
  rw [zag, zaa]; refine fin (i := ⟨o, _, y⟩) (Q' := Q) k3 k1 hk fun tf' t' r' p1 p2 p3 p4 => hQ tf' t' r' p1 (p2.trans k1) (p3.trans k2) ?_
  rw [he, zzg5]; exact p4
 refine w170 _ _ _ _ _ _ _ _ _ _ ?_
 have pos : ∀ {k : Nat} {x y : T} {Q : zaw}, op = k -> wp 170 x t Q -> wp 170 (.ite (iEq (op : Int) (k : Int)) x y) t Q := fun h hx => zbf (zc3.2 (by omega)) hx
 have neg : ∀ {k : Nat} {x y : T} {Q : zaw}, op ≠ k -> wp 170 y t Q -> wp 170 (.ite (iEq (op : Int) (k : Int)) x y) t Q := fun h hy => zb5 (fun e => absurd (zc3.1 e) (by omega)) hy
 unfold t170; by_cases c1 : op = 1
 ·refine pos c1 ?_
  have he : zd1 za8 op name v args.length s.nt = (s.nt.const za8 v, ⟨1, s.nt.constI za8 v, 0⟩) := by unfold zd1; rw [if_pos c1]
  simp only [wpT]; rw [q233]; refine zqz h hc h3 (hsh c1) ha hb fun tf1 t1 r1 k0 k1 k2 k3 => ?_
  rw [zag, zaa]; refine fin (i := ⟨1, _, 0⟩) (Q' := Q) k3 k1 hk fun tf' t' r' p1 p2 p3 p4 => hQ tf' t' r' (k0.trans p1) (p2.trans k1) (p3.trans k2) ?_
  rw [he, z1b]; exact p4
 ·refine neg c1 ?_
  by_cases c2 : op = 2
  ·refine pos c2 ?_
   have he : zd1 za8 op name v args.length s.nt = (s.nt, ⟨2, 0, 0⟩) := by unfold zd1; rw [if_neg c1, if_pos c2]
   simp only [wpT]; refine fin (i := ⟨2, 0, 0⟩) (Q' := Q) h rfl hk fun tf' t' r' p1 p2 p3 p4 => hQ tf' t' r' p1 p2 p3 ?_
   rw [he]; exact p4
  ·refine neg c2 ?_
   have h345 : ∀ (o : Nat), op = o -> (o = 3 \/ o = 4 \/ o = 5) -> zd1 za8 op name v args.length s.nt = (s.nt.name name, ⟨o, s.nt.nameI name, 0⟩) := by
    intro o e1 e2; unfold zd1; rw [if_neg c1, if_neg c2, if_pos (by omega), e1]
   by_cases c3 : op = 3
   ·refine pos c3 ?_
    simp only [wpT]; exact nm (K := fun _ => True) (Q' := Q) (h345 3 c3 (by omega))
   ·refine neg c3 ?_
    by_cases c4 : op = 4
    ·refine pos c4 ?_
     simp only [wpT]; exact nm (K := fun _ => True) (Q' := Q) (h345 4 c4 (by omega))
    ·refine neg c4 ?_
     by_cases c5 : op = 5
     ·refine pos c5 ?_
      simp only [wpT]; exact nm (K := fun _ => True) (Q' := Q) (h345 5 c5 (by omega))
     ·refine neg c5 ?_
      by_cases c6 : op = 6
      ·refine pos c6 ?_
       have he : zd1 za8 op name v args.length s.nt = (s.nt.name name, ⟨6, s.nt.nameI name, args.length⟩) := by unfold zd1; rw [if_neg c1, if_neg c2, if_neg (by omega), if_pos c6]
       simp only [wpT]; rw [hcc.len, zaa, yag, zag, zaa]; simp only [zaa, hcc.same, zfa, if_true]; exact nm (K := fun _ => True) (Q' := Q) he
      ·refine neg c6 ?_
       have h8 : (op = 21 \/ op = 22 \/ op = 23) -> zd1 za8 op name v args.length s.nt = (s.nt.name name, ⟨8, s.nt.nameI name, op⟩) := by
        intro e; unfold zd1; rw [if_neg c1, if_neg c2, if_neg (by omega), if_neg c6, if_pos e]
       by_cases c21 : op = 21
       ·refine pos c21 (pos c21 ?_)
        simp only [wpT, zam.op, zam.name, zam.v, zam.args, w, zfa, if_true]; exact nm (K := fun _ => True) (Q' := Q) (h8 (by omega))
       ·refine neg c21 ?_
        by_cases c23 : op = 23
        ·refine pos c23 (pos c23 ?_)
         simp only [wpT, zam.op, zam.name, zam.v, zam.args, w, zfa, if_true]; exact nm (K := fun _ => True) (Q' := Q) (h8 (by omega))
        ·refine neg c23 ?_
         by_cases c22 : op = 22
         ·refine pos c22 ?_
          simp only [wpT, zam.op, zam.name, zam.v, zam.args, w, zfa, if_true]; exact nm (K := fun _ => True) (Q' := Q) (h8 (by omega))
         ·refine neg c22 ?_
          by_cases c19 : op = 19
          ·refine pos c19 ?_
           have he : zd1 za8 op name v args.length s.nt = (s.nt, ⟨7, 19, v.i⟩) := by unfold zd1; rw [if_neg c1, if_neg c2, if_neg (by omega), if_neg c6, if_neg (by omega), if_pos c19]
           simp only [wpT, zam.op, zam.name, zam.v, zam.args, w]; refine fin (i := ⟨7, (op : Int), v.i⟩) (Q' := Q) h rfl hk fun tf' t' r' p1 p2 p3 p4 => hQ tf' t' r' p1 p2 p3 ?_
           rw [he]; subst c19; exact p4
          ·refine neg c19 ?_
           have he : zd1 za8 op name v args.length s.nt = (s.nt, ⟨7, op, 0⟩) := by unfold zd1; rw [if_neg c1, if_neg c2, if_neg (by omega), if_neg c6, if_neg (by omega), if_neg c19]
           simp only [wpT, zam.op, zam.name, zam.v, zam.args, w]; refine fin (i := ⟨7, (op : Int), 0⟩) (Q' := Q) h rfl hk fun tf' t' r' p1 p2 p3 p4 => hQ tf' t' r' p1 p2 p3 ?_
           rw [he]; exact p4
end Go.Proofs
namespace Go.Am
mutual
def zbl : zam -> Nat
 | .mk _ _ _ args => 1 + ze2 args
def ze2 : List zam -> Nat
 | [] => 0
 | x :: l => zbl x + ze2 l
end
section
variable {key : zcg -> List Nat} {valid : zcg -> Bool}
def zrf (f : Tr1) (n : Nat) : Prop := ∀ s p, (f s p).2.length <= 4 * n /\ (f s p).1.names.length <= s.names.length + n /\ (f s p).1.consts.length <= s.consts.length + n
theorem zzcg (s : Nt) (n : List Nat) : (s.name n).names.length <= s.names.length + 1 /\ (s.name n).consts = s.consts := by
 unfold Nt.name; split <;> simp
theorem zw1 (s : Nt) (v : zcg) : (s.const key v).consts.length <= s.consts.length + 1 /\ (s.const key v).names = s.names := by
 unfold Nt.const; split <;> simp
theorem z7h (op : Nat) (name : List Nat) (v : zcg) (n : Nat) (s : Nt) : (zd1 key op name v n s).1.names.length <= s.names.length + 1 /\ (zd1 key op name v n s).1.consts.length <= s.consts.length + 1 := by
 have h1 := zzcg s name
 have h2 := zw1 (key := key) s v
 unfold zd1; split
 ·simp only [h2.2]; omega
 ·split
  ·simp
  ·split
   ·simp only [h1.2]; omega
   ·split
    ·simp only [h1.2]; omega
    ·split
     ·simp only [h1.2]; omega
     ·split <;> simp
theorem zsa {f g : Tr1} {n m : Nat} {skip : Nat} {truth : Int} (hf : zrf f n) (hg : zrf g m) : zrf (zny key f g skip truth) (1 + (n + m)) := by
 intro s p; have h1 := hf s p
 have h2 := hg (f s p).1 (p + (f s p).2.length + 1)
 have h3 := zw1 (key := key) (g (f s p).1 (p + (f s p).2.length + 1)).1 (zdg truth)
 unfold zny; simp only [yah, yao, yay, h3.2]; omega
theorem zzbn {f g h : Tr1} {n m k : Nat} (hf : zrf f n) (hg : zrf g m) (hh : zrf h k) : zrf (ifT f g h) (1 + (n + (m + k))) := by
 intro s p; have h1 := hf s p
 have h2 := hg (f s p).1 (p + (f s p).2.length + 1)
 have h3 := hh (g (f s p).1 (p + (f s p).2.length + 1)).1 (p + (f s p).2.length + 1 + (g (f s p).1 (p + (f s p).2.length + 1)).2.length + 1)
 unfold ifT; simp only [yah, yao]; omega
theorem zpv : ∀ (l : List zam), (∀ x ∈ l, zrf (trX key valid x) (zbl x)) -> zrf (zh1 (trF key valid l)) (ze2 l)
 | [], _ => by intro s p; simp [trF, zh1, ze2]
 | x :: l, h => by
  intro s p; have h1 := h x (by simp) s p
  have h2 := zpv l (fun y hy => h y (by simp [hy])) (trX key valid x s p).1 (p + (trX key valid x s p).2.length)
  simp only [trF, zh1, ze2, yah]; omega
mutual
theorem zdh : ∀ (x : zam), zrf (trX key valid x) (zbl x)
 | .mk op name v args => by
  have ih := zvf args
  intro s p; unfold trX zbl zlo; by_cases h0 : zc5 valid op v (trF key valid args).length = false
  ·simp only [if_pos h0, yao, yay]; omega
  ·simp only [if_neg h0]
   have h0 : zc5 valid op v (trF key valid args).length = true := by simpa using h0
   rw [zx6] at h0; have hn := h0
   unfold zc5 at hn; simp only [yac, decide_eq_true_eq] at hn; by_cases h15 : op = 15
   ·simp only [if_pos h15]
    subst h15; have : args.length = 2 := by have h1 := hn.1.2; have h2 := hn.2; simp [zra] at h1 h2; omega
    match args, this, ih with
    | [a, b], _, ih =>
     have := zsa (key := key) (skip := 10) (truth := 0) (ih a (by simp)) (ih b (by simp)) s p
     simp only [trF, ze2]; simpa using this
   ·simp only [if_neg h15]
    by_cases h16 : op = 16
    ·simp only [if_pos h16]
     subst h16; have : args.length = 2 := by have h1 := hn.1.2; have h2 := hn.2; simp [zra] at h1 h2; omega
     match args, this, ih with
     | [a, b], _, ih =>
      have := zsa (key := key) (skip := 11) (truth := 1) (ih a (by simp)) (ih b (by simp)) s p
      simp only [trF, ze2]; simpa using this
    ·simp only [if_neg h16]
     by_cases h18 : op = 18
     ·simp only [if_pos h18]
      subst h18; have : args.length = 3 := by have h1 := hn.1.2; have h2 := hn.2; simp [zra] at h1 h2; omega
      match args, this, ih with
      | [a, b, c], _, ih =>
       have := zzbn (ih a (by simp)) (ih b (by simp)) (ih c (by simp)) s p
       simp only [trF, ze2]; simpa using this
     ·simp only [if_neg h18]
      have h1 := zpv args ih s p
      have h2 := z7h (key := key) op name v (trF key valid args).length (zh1 (trF key valid args) s p).1
      simp only [yah, yao, yay]; omega
theorem zvf : ∀ (l : List zam), ∀ x ∈ l, zrf (trX key valid x) (zbl x)
 | [], x, h => by cases h
 | y :: l, x, h => by
  rcases yat.1 h with e | h
  ·rw [e]; exact zdh y
  ·exact zvf l x h
end
end
end Go.Am
namespace Go.Proofs
open Go Go.Am
variable [zcf]
variable {t tf : Tr zal} {r : TR} {s : XSt}
mutual
theorem zn7 : ∀ (x : zam) (deep c : Nat), (zg9 x deep c).1 = true -> (zg9 x deep c).2 = c + zbl x
 | .mk op name v args, deep, c, h => by
  unfold zg9 at h ⊢
  unfold zbl; split at h
  ·cases h
  ·rename_i h1
   rw [if_neg h1]; split at h
   ·cases h
   ·rename_i h2
    rw [if_neg h2, zn8 args _ _ h]; omega
theorem zn8 : ∀ (l : List zam) (deep c : Nat), (zha l deep c).1 = true -> (zha l deep c).2 = c + ze2 l
 | [], deep, c, h => by unfold zha ze2; rfl
 | x :: l, deep, c, h => by
  unfold zha at h ⊢
  unfold ze2; split at h
  ·rename_i h1
   rw [if_pos h1, zn8 l _ _ h, zn7 x _ _ h1]; omega
  ·cases h
end
theorem zg8 {x : zam} (h : zme x = true) : zbl x <= 200 := by
 have h1 := zn7 x 1 0 h
 have h2 := (zpx x 1 0 (by omega)).2 h
 omega
theorem zk1 {l : List zam} {v : zab} (hv : RSl tf 9 (l.map zam.d) v) (ht : TLe tf t) {i : Nat} {x : zam} (hx : l[i]? = some x) :
  ∃ b off a c d, zaf C19 48 v (.int .i64 (i : Int)) = some (.ptr b off) /\ zap C19 50 ⟨0, t⟩ (.ptr b off) = some (.agg (zex x a c d)) /\ RD tf x.d (zex x a c d) /\ zrc [(.int .u8 0), (.str []), (.int .u8 0), (.bool false), .nilslice, (.bool false), .nilslice, (.int .i64 0), .nilslice] (.agg (zex x a c d)) = some (cellsOf (zex x a c d)) ∧
   RSl tf 1 (zd2 x.v.f.n.limbs) a /\ RSl tf 1 (zd2 x.v.f.d.limbs) c /\ RSl tf 9 (x.args.map zam.d) d := by
 obtain ⟨b, off, a, c, d, g1, g2, g3, g4, g5, g6, g7⟩ := zzg hv hx
 exact ⟨b, off, a, c, d, g1, zeg (H := ⟨0, tf⟩) (fun _ _ h => ht _ _ h) g2, g3, g4, g5, g6, g7⟩
theorem zxw {v : zcg} (h : zan v = true) : zcg.short v := by
 have z : zpf v.f = true -> zcg.short v := by
  intro h; unfold zpf z24 zyj at h; simp only [yac, decide_eq_true_eq] at h; unfold zcg.short; rw [h.1.2, h.2.2]; simp
 have f : zl5 v.f = true -> zcg.short v := by
  intro h; unfold zl5 at h; simp only [yac, decide_eq_true_eq] at h; have h1 := h.1.1.1.1.1.1
  have h2 := h.1.1.1.1.1.2
  exact ⟨by omega, by omega⟩
 unfold zan at h; split at h
 ·simp only [yac] at h; exact f h.2
 ·split at h
  ·simp only [yac] at h; exact z h.1
  ·split at h
   ·simp only [yac] at h; exact z h.1
   ·split at h
    ·simp only [yac] at h; exact z h.1
    ·cases h
theorem zp1 {α : Type} {A B : List α} {x y : α} {n : Nat} (h : A.length = n) : (A ++ x :: B).set n y = A ++ y :: B := by
 subst h; rw [List.set_append_right _ _ (yal _), Nat.sub_self]; rfl
theorem zuh {α : Type} {A B : List α} {x : α} {n : Nat} (h : A.length = n) : (A ++ x :: B)[n]? = some x := by
 subst h; rw [yaq (yal _), Nat.sub_self]; rfl
def zlp (x : zam) : Prop := ∀ (cs : List zab) (t tf : Tr zal) (r : TR) (s : XSt) (Q : zaw), x.fit -> z2i tf -> RD tf x.d cs -> TS za8 tf t r s -> s.code.length + 4 * zbl x < 300000 -> s.names.length + zbl x < 300000 -> s.consts.length + zbl x < 300000 →
 (∀ tf' t' r', TLe tf tf' -> r'.b = r.b -> r'.kp = r.kp -> TS za8 tf' t' r' (s.put (trX za8 zan x s.nt s.code.length).1 (trX za8 zan x s.nt s.code.length).2) -> Q (.tup []) t') -> Wc C19 F 104 [.ptr r.b 0, .agg cs] t Q
theorem zp4 {sz : Nat} : RSl t sz [] .nilslice := ⟨[], .inl ⟨rfl, rfl⟩, zbv.2 rfl⟩
theorem zmz {a b : zam} {cs : List zab} {args : List zam} {op : Nat} {name : List Nat} {v : zcg} {u1 u2 u3 : zab} {skip : Nat} {truth : Int} {Q : zaw} (hA : zlp a) (hB : zlp b) (hcs : cs = zex (.mk op name v args) u1 u2 u3) (hargs : args = [a, b]) (hfa : a.fit) (hfb : b.fit) (hg : z2i tf) (hu : RSl tf 9 (args.map zam.d) u3) (h : TS za8 tf t r s)
  (htr : -9223372036854775808 <= truth /\ truth < 9223372036854775808) (b1 : s.code.length + 4 * (1 + (zbl a + zbl b)) < 300000) (b2 : s.names.length + (1 + (zbl a + zbl b)) < 300000) (b3 : s.consts.length + (1 + (zbl a + zbl b)) < 300000)
  (hQ : ∀ tf' t' r', TLe tf tf' -> r'.b = r.b -> r'.kp = r.kp -> TS za8 tf' t' r' (s.put (zny za8 (trX za8 zan a) (trX za8 zan b) skip truth s.nt s.code.length).1 (zny za8 (trX za8 zan a) (trX za8 zan b) skip truth s.nt s.code.length).2) -> Q (.tup []) t') :
  Wc C19 F 169 [.ptr r.b 0, .agg cs, .int .u8 (skip : Int), .agg [.int .u8 1, .bool false, .nilslice, .bool false, .nilslice, .int .i64 truth]] t Q := by
 subst hcs; refine w169 _ _ _ _ _ _ _ _ _ _ _ _ _ _ _ _ _ ?_
 simp only [t169, wpT, zam.op, zam.name, zam.v, zam.args]; obtain ⟨p, o, x1, x2, x3, g1, g2, g3, g4, _, _, _⟩ := zk1 hu h.os.tle (i := 0) (x := a) (by rw [hargs]; rfl)
 have g1 : zaf C19 48 u3 (.int .i64 0) = some (.ptr p o) := g1
 rw [g1, zaa, g2, zaa, g4, zaa]; simp only [zex, cellsOf, zix, zil, zde, ze6, yaa, yab]; rw [zzgv]; have sa := zdh (key := za8) (valid := zan) a s.nt s.code.length
 refine hA _ t tf r s _ hfa hg g3 h (by omega) (by omega) (by omega) fun tf1 t1 r1 k1 k2 k3 k4 => ?_
 generalize eR : trX za8 zan a s.nt s.code.length = R at *
 have sa1 : R.1.names.length <= s.names.length + zbl a := sa.2.1
 have sa2 : R.1.consts.length <= s.consts.length + zbl a := sa.2.2
 rw [zzer, <- k2]; refine zot (i := ⟨skip, 0, 0⟩) k4 (by show (s.code ++ R.2).length < _; rw [yah]; omega) fun tf2 t2 r2 v2 m1 m2 m3 m4 m5 => ?_
 obtain ⟨p', o', y1, y2, y3, f1, f2, f3, f4, _, _, _⟩ := zk1 hu ((k1.trans m1).trans m4.os.tle) (i := 1) (x := b) (by rw [hargs]; rfl)
 have f1 : zaf C19 48 u3 (.int .i64 1) = some (.ptr p' o') := f1
 rw [f1, zaa, f2, zaa, f4, zaa]; simp only [zex, cellsOf, zix, zil, zde, ze6, yaa, yab]; rw [zzgv, <- m2]; have e2 : (s.code ++ R.2 ++ [(⟨skip, 0, 0⟩ : XIns)]).length = s.code.length + R.2.length + 1 := by simp only [yah, yao, yay]
 have sb := zdh (key := za8) (valid := zan) b R.1 (s.code.length + R.2.length + 1)
 refine hB _ t2 tf2 r2 _ _ hfb ((hg.mono k1).mono m1) (RD.mono (k1.trans m1) _ _ f3) m4 (by show (s.code ++ R.2 ++ [_]).length + _ < _; rw [e2]; omega) (by show R.1.names.length + _ < _; omega) (by show R.1.consts.length + _ < _; omega) fun tf3 t3 r3 n1 n2 n3 n4 => ?_
 have n4 : TS za8 tf3 t3 r3 (XSt.put ⟨R.1.names, R.1.consts, s.ws, s.ts, s.code ++ R.2 ++ [(⟨skip, 0, 0⟩ : XIns)]⟩ (trX za8 zan b R.1 (s.code ++ R.2 ++ [(⟨skip, 0, 0⟩ : XIns)]).length).1 (trX za8 zan b R.1 (s.code ++ R.2 ++ [(⟨skip, 0, 0⟩ : XIns)]).length).2) := n4
 rw [e2] at n4; generalize eG : trX za8 zan b R.1 (s.code.length + R.2.length + 1) = G at *
 unfold XSt.put at n4; simp only at n4
 have lg : G.2.length <= 4 * zbl b := sb.1
 have lr : R.2.length <= 4 * zbl a := sa.1
 have ln : G.1.names.length <= R.1.names.length + zbl b := sb.2.1
 have lc : G.1.consts.length <= R.1.consts.length + zbl b := sb.2.2
 rw [zzer, <- n2]; refine zot (i := ⟨12, 0, 0⟩) n4 (by show (s.code ++ R.2 ++ [_] ++ G.2).length < _; rw [yah, e2]; omega) fun tf4 t4 r4 v4 p1 p2 p3 p4 _ => ?_
 have e4 : (s.code ++ R.2 ++ [(⟨skip, 0, 0⟩ : XIns)] ++ G.2 ++ [(⟨12, 0, 0⟩ : XIns)]).length = s.code.length + R.2.length + 1 + G.2.length + 1 := by simp; omega
 rw [zzer, <- p2]; refine zot (i := ⟨9, 0, 0⟩) p4 (by show (s.code ++ R.2 ++ [_] ++ G.2 ++ [_]).length < _; rw [e4]; omega) fun tf5 t5 r5 v5 c1 c2 c3 c4 c5 => ?_
 have ecode : s.code ++ R.2 ++ [(⟨skip, 0, 0⟩ : XIns)] ++ G.2 ++ [(⟨12, 0, 0⟩ : XIns)] ++ [(⟨9, 0, 0⟩ : XIns)] = (s.code ++ R.2) ++ ⟨skip, 0, 0⟩ :: (G.2 ++ [⟨12, 0, 0⟩, ⟨9, 0, 0⟩]) := by simp
 have e5 : (s.code ++ R.2 ++ [(⟨skip, 0, 0⟩ : XIns)] ++ G.2 ++ [(⟨12, 0, 0⟩ : XIns)] ++ [(⟨9, 0, 0⟩ : XIns)]).length = s.code.length + R.2.length + 1 + G.2.length + 2 := by simp; omega
 have hb5 : r5.b = r1.b := by rw [c2, p2, n2, m2]
 have m5' : Tgt tf5 r5.b v2 (s.code ++ R.2).length := by
  rw [hb5]; exact m5.mono (n1.trans (p1.trans c1))
 have tg1 := zl9 (i := (s.code ++ R.2).length) (x := ⟨skip, 0, 0⟩) (v := v2) (Q := fun u t' => Wq C19 F za2 233 [.ptr r4.b 0, .agg [.int .u8 1, .bool false, .nilslice, .bool false, .nilslice, .int .i64 truth]] t' fun a' t' => zed (zzcz .i64 a') fun n => Wq C19 F za2 168 [.ptr r4.b 0, .int .u8 1, .int .i64 n, .int .i64 0] t' fun _ t' => zed (zn1 v5 []) fun q => Wq C19 F za2 q.1 q.2 t' fun _ t' => Q (.tup []) t') c4 m5' (by show (s.code ++ R.2 ++ [_] ++ G.2 ++ [_] ++ [_])[_]? = _; rw [ecode]; exact zuh rfl) (by show (s.code ++ R.2 ++ [_] ++ G.2 ++ [_] ++ [_]).length < _; rw [e5]; omega) (fun t6 h6 => ?_)
 ·exact tg1
 ·have h6 : TS za8 tf5 t6 r5 ⟨G.1.names, G.1.consts, s.ws, s.ts, (s.code ++ R.2 ++ [(⟨skip, 0, 0⟩ : XIns)] ++ G.2 ++ [(⟨12, 0, 0⟩ : XIns)] ++ [(⟨9, 0, 0⟩ : XIns)]).set (s.code ++ R.2).length ⟨skip, ((s.code ++ R.2 ++ [(⟨skip, 0, 0⟩ : XIns)] ++ G.2 ++ [(⟨12, 0, 0⟩ : XIns)] ++ [(⟨9, 0, 0⟩ : XIns)]).length : Nat), 0⟩⟩ := h6
  rw [e5, ecode, zp1 rfl] at h6; rw [q233, <- c2]; have hfit : (zdg truth).fit := ⟨(by show 1 < 256; decide), ⟨⟨(by show 0 < zf9; decide), (by show 0 < zf9; decide)⟩, (fun x hx => by cases hx), (fun x hx => by cases hx)⟩, htr.1, htr.2⟩
  refine zqz (v := zdg truth) h6 (by show G.1.consts.length < _; omega) hfit ⟨(by show 0 < 400; decide), (by show 0 < 400; decide)⟩ zp4 zp4 fun tf7 t7 r7 d1 d2 d3 d4 => ?_
  rw [zag, zaa, zzer, <- d2]; have e7 : ((s.code ++ R.2) ++ ⟨skip, ((s.code.length + R.2.length + 1 + G.2.length + 2 : Nat) : Int), 0⟩ :: (G.2 ++ [(⟨12, 0, 0⟩ : XIns), ⟨9, 0, 0⟩])).length = s.code.length + R.2.length + 1 + G.2.length + 2 := by simp; omega
  refine zot (i := ⟨1, ((zqq (za8 (zdg truth)) (G.1.consts.map za8) : Nat) : Int), 0⟩) d4 (by show (_ ++ _ :: _).length < _; rw [e7]; omega) fun tf8 t8 r8 v8 z1 z2 z3 z4 _ => ?_
  have ecode2 : ((s.code ++ R.2) ++ ⟨skip, ((s.code.length + R.2.length + 1 + G.2.length + 2 : Nat) : Int), 0⟩ :: (G.2 ++ [(⟨12, 0, 0⟩ : XIns), ⟨9, 0, 0⟩])) ++ [(⟨1, ((zqq (za8 (zdg truth)) (G.1.consts.map za8) : Nat) : Int), 0⟩ : XIns)] =
   ((s.code ++ R.2) ++ ⟨skip, ((s.code.length + R.2.length + 1 + G.2.length + 2 : Nat) : Int), 0⟩ :: (G.2 ++ [(⟨12, 0, 0⟩ : XIns)])) ++ ⟨9, 0, 0⟩ :: [⟨1, ((zqq (za8 (zdg truth)) (G.1.consts.map za8) : Nat) : Int), 0⟩] := by simp
  have e8 : ((s.code ++ R.2) ++ ⟨skip, ((s.code.length + R.2.length + 1 + G.2.length + 2 : Nat) : Int), 0⟩ :: (G.2 ++ [(⟨12, 0, 0⟩ : XIns)])).length = (s.code ++ R.2 ++ [(⟨skip, 0, 0⟩ : XIns)] ++ G.2 ++ [(⟨12, 0, 0⟩ : XIns)]).length := by simp
  have e9 : (((s.code ++ R.2) ++ ⟨skip, ((s.code.length + R.2.length + 1 + G.2.length + 2 : Nat) : Int), 0⟩ :: (G.2 ++ [(⟨12, 0, 0⟩ : XIns), ⟨9, 0, 0⟩])) ++ [(⟨1, ((zqq (za8 (zdg truth)) (G.1.consts.map za8) : Nat) : Int), 0⟩ : XIns)]).length = s.code.length + R.2.length + 1 + G.2.length + 3 := by simp; omega
  have hb8 : r8.b = r4.b := by rw [z2, d2, c2]
  have c5' : Tgt tf8 r8.b v5 (s.code ++ R.2 ++ [(⟨skip, 0, 0⟩ : XIns)] ++ G.2 ++ [(⟨12, 0, 0⟩ : XIns)]).length := by
   rw [hb8]; exact c5.mono (d1.trans z1)
  refine zl9 (x := ⟨9, 0, 0⟩) z4 c5' (by show (_ ++ [_])[_]? = _; rw [ecode2]; exact zuh e8) (by show (_ ++ [_]).length < _; rw [e9]; omega) fun t9 h9 => ?_
  refine hQ tf8 t9 r8 (k1.trans (m1.trans (n1.trans (p1.trans (c1.trans (d1.trans z1)))))) (by rw [hb8, p2, n2, m2, k2]) (by rw [z3, d3, c3, p3, n3, m3, k3]) ?_
  have h9 : TS za8 tf8 t9 r8 ⟨G.1.names, addC za8 G.1.consts (zdg truth), s.ws, s.ts, (((s.code ++ R.2) ++ ⟨skip, ((s.code.length + R.2.length + 1 + G.2.length + 2 : Nat) : Int), 0⟩ :: (G.2 ++ [(⟨12, 0, 0⟩ : XIns), ⟨9, 0, 0⟩])) ++ [(⟨1, ((zqq (za8 (zdg truth)) (G.1.consts.map za8) : Nat) : Int), 0⟩ : XIns)]).set (s.code ++ R.2 ++ [(⟨skip, 0, 0⟩ : XIns)] ++ G.2 ++ [(⟨12, 0, 0⟩ : XIns)]).length ⟨9, ((((s.code ++ R.2) ++ ⟨skip, ((s.code.length + R.2.length + 1 + G.2.length + 2 : Nat) : Int), 0⟩ :: (G.2 ++ [(⟨12, 0, 0⟩ : XIns), ⟨9, 0, 0⟩])) ++ [(⟨1, ((zqq (za8 (zdg truth)) (G.1.consts.map za8) : Nat) : Int), 0⟩ : XIns)]).length : Nat), 0⟩⟩ := h9
  rw [e9, ecode2, zp1 e8] at h9; unfold XSt.put zny; rw [eR, eG]; have en : G.1.const za8 (zdg truth) = ⟨G.1.names, addC za8 G.1.consts (zdg truth)⟩ := z1b ⟨G.1.names, G.1.consts, [], [], []⟩ (zdg truth)
  rw [en]; have el : s.code ++ (R.2 ++ ⟨skip, ((s.code.length + R.2.length + 1 + G.2.length + 2 : Nat) : Int), 0⟩ :: (G.2 ++ [(⟨12, 0, 0⟩ : XIns), ⟨9, ((s.code.length + R.2.length + 1 + G.2.length + 3 : Nat) : Int), 0⟩, ⟨1, ((G.1.constI za8 (zdg truth) : Nat) : Int), 0⟩])) =
   ((s.code ++ R.2) ++ ⟨skip, ((s.code.length + R.2.length + 1 + G.2.length + 2 : Nat) : Int), 0⟩ :: (G.2 ++ [(⟨12, 0, 0⟩ : XIns)])) ++ ⟨9, ((s.code.length + R.2.length + 1 + G.2.length + 3 : Nat) : Int), 0⟩ :: [⟨1, ((zqq (za8 (zdg truth)) (G.1.consts.map za8) : Nat) : Int), 0⟩] := by
   simp [Nt.constI]
  rw [el]; exact h9
end Go.Proofs
namespace Go.Proofs
open Go Go.Am
variable [zcf]
variable {t tf : Tr zal} {r : TR} {s : XSt}
theorem if_ok {a b d : zam} {args : List zam} {u3 : zab} {Q : zaw} (hA : zlp a) (hB : zlp b) (hD : zlp d) (hargs : args = [a, b, d]) (hfa : a.fit) (hfb : b.fit) (hfd : d.fit) (hg : z2i tf) (hu : RSl tf 9 (args.map zam.d) u3) (h : TS za8 tf t r s)
  (b1 : s.code.length + 4 * (1 + (zbl a + (zbl b + zbl d))) < 300000) (b2 : s.names.length + (1 + (zbl a + (zbl b + zbl d))) < 300000) (b3 : s.consts.length + (1 + (zbl a + (zbl b + zbl d))) < 300000)
  (hQ : ∀ tf' t' r', TLe tf tf' -> r'.b = r.b -> r'.kp = r.kp -> TS za8 tf' t' r' (s.put (ifT (trX za8 zan a) (trX za8 zan b) (trX za8 zan d) s.nt s.code.length).1 (ifT (trX za8 zan a) (trX za8 zan b) (trX za8 zan d) s.nt s.code.length).2) -> Q (.tup []) t') :
  wp 104 (.opt (zaf C19 48 u3 (.int .i64 0)) fun a5 => .light (fun m => zap C19 50 ⟨0, m⟩ a5) fun a6 => .asG [(.int .u8 0), (.str []), (.int .u8 0), (.bool false), .nilslice, (.bool false), .nilslice, (.int .i64 0), .nilslice] a6 fun X7 =>
 .call 104 [.ptr r.b 0, (.agg [(.int .u8 (X7.i 0)), (.str (X7.s 1)), (.int .u8 (X7.i 2)), (.bool (X7.b 3)), (X7.v 4), (.bool (X7.b 5)), (X7.v 6), (.int .i64 (X7.i 7)), (X7.v 8)])] fun a8 =>
 .call 168 [.ptr r.b 0, (.int .u8 10), (.int .i64 0), (.int .i64 0)] fun a9 =>
 .opt (zaf C19 48 u3 (.int .i64 1)) fun a10 => .light (fun m => zap C19 50 ⟨0, m⟩ a10) fun a11 => .asG [(.int .u8 0), (.str []), (.int .u8 0), (.bool false), .nilslice, (.bool false), .nilslice, (.int .i64 0), .nilslice] a11 fun X12 =>
 .call 104 [.ptr r.b 0, (.agg [(.int .u8 (X12.i 0)), (.str (X12.s 1)), (.int .u8 (X12.i 2)), (.bool (X12.b 3)), (X12.v 4), (.bool (X12.b 5)), (X12.v 6), (.int .i64 (X12.i 7)), (X12.v 8)])] fun a13 =>
 .call 168 [.ptr r.b 0, (.int .u8 9), (.int .i64 0), (.int .i64 0)] fun a14 =>
 .callv a9 [] fun a15 =>
 .opt (zaf C19 48 u3 (.int .i64 2)) fun a16 => .light (fun m => zap C19 50 ⟨0, m⟩ a16) fun a17 => .asG [(.int .u8 0), (.str []), (.int .u8 0), (.bool false), .nilslice, (.bool false), .nilslice, (.int .i64 0), .nilslice] a17 fun X18 =>
 .call 104 [.ptr r.b 0, (.agg [(.int .u8 (X18.i 0)), (.str (X18.s 1)), (.int .u8 (X18.i 2)), (.bool (X18.b 3)), (X18.v 4), (.bool (X18.b 5)), (X18.v 6), (.int .i64 (X18.i 7)), (X18.v 8)])] fun a19 =>
 .callv a14 [] fun a20 =>
 .ret (.tup [])) t Q := by
 simp only [wpT]; obtain ⟨p, o, x1, x2, x3, g1, g2, g3, g4, _, _, _⟩ := zk1 hu h.os.tle (i := 0) (x := a) (by rw [hargs]; rfl)
 have g1 : zaf C19 48 u3 (.int .i64 0) = some (.ptr p o) := g1
 rw [g1, zaa, g2, zaa, g4, zaa]; simp only [zex, cellsOf, zix, zil, zde, ze6, yaa, yab]; rw [zzgv]; have sa := zdh (key := za8) (valid := zan) a s.nt s.code.length
 refine hA _ t tf r s _ hfa hg g3 h (by omega) (by omega) (by omega) fun tf1 t1 r1 k1 k2 k3 k4 => ?_
 generalize eR : trX za8 zan a s.nt s.code.length = R at *
 have sa1 : R.1.names.length <= s.names.length + zbl a := sa.2.1
 have sa2 : R.1.consts.length <= s.consts.length + zbl a := sa.2.2
 rw [zzer, <- k2]; refine zot (i := ⟨10, 0, 0⟩) k4 (by show (s.code ++ R.2).length < _; rw [yah]; omega) fun tf2 t2 r2 v2 m1 m2 m3 m4 m5 => ?_
 obtain ⟨p', o', y1, y2, y3, f1, f2, f3, f4, _, _, _⟩ := zk1 hu ((k1.trans m1).trans m4.os.tle) (i := 1) (x := b) (by rw [hargs]; rfl)
 have f1 : zaf C19 48 u3 (.int .i64 1) = some (.ptr p' o') := f1
 rw [f1, zaa, f2, zaa, f4, zaa]; simp only [zex, cellsOf, zix, zil, zde, ze6, yaa, yab]; rw [zzgv, <- m2]; have e2 : (s.code ++ R.2 ++ [(⟨10, 0, 0⟩ : XIns)]).length = s.code.length + R.2.length + 1 := by simp only [yah, yao, yay]
 have sb := zdh (key := za8) (valid := zan) b R.1 (s.code.length + R.2.length + 1)
 refine hB _ t2 tf2 r2 _ _ hfb ((hg.mono k1).mono m1) (RD.mono (k1.trans m1) _ _ f3) m4 (by show (s.code ++ R.2 ++ [_]).length + _ < _; rw [e2]; omega) (by show R.1.names.length + _ < _; omega) (by show R.1.consts.length + _ < _; omega) fun tf3 t3 r3 n1 n2 n3 n4 => ?_
 have n4 : TS za8 tf3 t3 r3 (XSt.put ⟨R.1.names, R.1.consts, s.ws, s.ts, s.code ++ R.2 ++ [(⟨10, 0, 0⟩ : XIns)]⟩ (trX za8 zan b R.1 (s.code ++ R.2 ++ [(⟨10, 0, 0⟩ : XIns)]).length).1 (trX za8 zan b R.1 (s.code ++ R.2 ++ [(⟨10, 0, 0⟩ : XIns)]).length).2) := n4
 rw [e2] at n4; generalize eG : trX za8 zan b R.1 (s.code.length + R.2.length + 1) = G at *
 unfold XSt.put at n4; simp only at n4
 have lg : G.2.length <= 4 * zbl b := sb.1
 have lr : R.2.length <= 4 * zbl a := sa.1
 have ln : G.1.names.length <= R.1.names.length + zbl b := sb.2.1
 have lc : G.1.consts.length <= R.1.consts.length + zbl b := sb.2.2
 rw [zzer, <- n2]; have e3 : (s.code ++ R.2 ++ [(⟨10, 0, 0⟩ : XIns)] ++ G.2).length = s.code.length + R.2.length + 1 + G.2.length := by simp only [yah, yao, yay]
 refine zot (i := ⟨9, 0, 0⟩) n4 (by show (s.code ++ R.2 ++ [_] ++ G.2).length < _; rw [e3]; omega) fun tf5 t5 r5 v5 c1 c2 c3 c4 c5 => ?_
 have ecode : s.code ++ R.2 ++ [(⟨10, 0, 0⟩ : XIns)] ++ G.2 ++ [(⟨9, 0, 0⟩ : XIns)] = (s.code ++ R.2) ++ ⟨10, 0, 0⟩ :: (G.2 ++ [⟨9, 0, 0⟩]) := by simp
 have e5 : (s.code ++ R.2 ++ [(⟨10, 0, 0⟩ : XIns)] ++ G.2 ++ [(⟨9, 0, 0⟩ : XIns)]).length = s.code.length + R.2.length + 1 + G.2.length + 1 := by simp only [yah, yao, yay]
 have hb5 : r5.b = r1.b := by rw [c2, n2, m2]
 have m5' : Tgt tf5 r5.b v2 (s.code ++ R.2).length := by
  rw [hb5]; exact m5.mono (n1.trans c1)
 refine zl9 (i := (s.code ++ R.2).length) (x := ⟨10, 0, 0⟩) (v := v2) c4 m5' (by show (s.code ++ R.2 ++ [_] ++ G.2 ++ [_])[_]? = _; rw [ecode]; exact zuh rfl) (by show (s.code ++ R.2 ++ [_] ++ G.2 ++ [_]).length < _; rw [e5]; omega) (fun t6 h6 => ?_)
 have h6 : TS za8 tf5 t6 r5 ⟨G.1.names, G.1.consts, s.ws, s.ts, (s.code ++ R.2 ++ [(⟨10, 0, 0⟩ : XIns)] ++ G.2 ++ [(⟨9, 0, 0⟩ : XIns)]).set (s.code ++ R.2).length ⟨10, ((s.code ++ R.2 ++ [(⟨10, 0, 0⟩ : XIns)] ++ G.2 ++ [(⟨9, 0, 0⟩ : XIns)]).length : Nat), 0⟩⟩ := h6
 rw [e5, ecode, zp1 rfl] at h6; obtain ⟨p6, o6, w1, w2, w3, l1, l2, l3, l4, _, _, _⟩ := zk1 hu ((((k1.trans m1).trans n1).trans c1).trans h6.os.tle) (i := 2) (x := d) (by rw [hargs]; rfl)
 have l1 : zaf C19 48 u3 (.int .i64 2) = some (.ptr p6 o6) := l1
 rw [l1, zaa, l2, zaa, l4, zaa]; simp only [zex, cellsOf, zix, zil, zde, ze6, yaa, yab]; have e6 : ((s.code ++ R.2) ++ ⟨10, ((s.code.length + R.2.length + 1 + G.2.length + 1 : Nat) : Int), 0⟩ :: (G.2 ++ [(⟨9, 0, 0⟩ : XIns)])).length = s.code.length + R.2.length + 1 + G.2.length + 1 := by simp only [yah, yao, yay]; omega
 have sd := zdh (key := za8) (valid := zan) d G.1 (s.code.length + R.2.length + 1 + G.2.length + 1)
 rw [zzgv, <- c2]; refine hD _ t6 tf5 r5 _ _ hfd (((hg.mono k1).mono m1).mono (n1.trans c1)) (RD.mono ((k1.trans m1).trans (n1.trans c1)) _ _ l3) h6 (by show ((s.code ++ R.2) ++ _ :: _).length + _ < _; rw [e6]; omega) (by show G.1.names.length + _ < _; omega) (by show G.1.consts.length + _ < _; omega) fun tf7 t7 r7 d1 d2 d3 d4 => ?_
 have d4 : TS za8 tf7 t7 r7 (XSt.put ⟨G.1.names, G.1.consts, s.ws, s.ts, (s.code ++ R.2) ++ ⟨10, ((s.code.length + R.2.length + 1 + G.2.length + 1 : Nat) : Int), 0⟩ :: (G.2 ++ [(⟨9, 0, 0⟩ : XIns)])⟩ (trX za8 zan d G.1 ((s.code ++ R.2) ++ ⟨10, ((s.code.length + R.2.length + 1 + G.2.length + 1 : Nat) : Int), 0⟩ :: (G.2 ++ [(⟨9, 0, 0⟩ : XIns)])).length).1 (trX za8 zan d G.1 ((s.code ++ R.2) ++ ⟨10, ((s.code.length + R.2.length + 1 + G.2.length + 1 : Nat) : Int), 0⟩ :: (G.2 ++ [(⟨9, 0, 0⟩ : XIns)])).length).2) := d4
 rw [e6] at d4; generalize eW : trX za8 zan d G.1 (s.code.length + R.2.length + 1 + G.2.length + 1) = W at *
 unfold XSt.put at d4; simp only at d4
 have lw : W.2.length <= 4 * zbl d := sd.1
 have hb7 : r7.b = r3.b := by rw [d2, c2]
 have c5' : Tgt tf7 r7.b v5 (s.code ++ R.2 ++ [(⟨10, 0, 0⟩ : XIns)] ++ G.2).length := by
  rw [hb7]; exact c5.mono d1
 have ecode2 : ((s.code ++ R.2) ++ ⟨10, ((s.code.length + R.2.length + 1 + G.2.length + 1 : Nat) : Int), 0⟩ :: (G.2 ++ [(⟨9, 0, 0⟩ : XIns)])) ++ W.2 = ((s.code ++ R.2) ++ ⟨10, ((s.code.length + R.2.length + 1 + G.2.length + 1 : Nat) : Int), 0⟩ :: G.2) ++ ⟨9, 0, 0⟩ :: W.2 := by simp
 have e8 : ((s.code ++ R.2) ++ ⟨10, ((s.code.length + R.2.length + 1 + G.2.length + 1 : Nat) : Int), 0⟩ :: G.2).length = (s.code ++ R.2 ++ [(⟨10, 0, 0⟩ : XIns)] ++ G.2).length := by simp
 have e9 : (((s.code ++ R.2) ++ ⟨10, ((s.code.length + R.2.length + 1 + G.2.length + 1 : Nat) : Int), 0⟩ :: (G.2 ++ [(⟨9, 0, 0⟩ : XIns)])) ++ W.2).length = s.code.length + R.2.length + 1 + G.2.length + 1 + W.2.length := by simp only [yah, yao, yay]; omega
 refine zl9 (x := ⟨9, 0, 0⟩) d4 c5' (by show (_ ++ W.2)[_]? = _; rw [ecode2]; exact zuh e8) (by show (_ ++ W.2).length < _; rw [e9]; omega) fun t9 h9 => ?_
 refine hQ tf7 t9 r7 (k1.trans (m1.trans (n1.trans (c1.trans d1)))) (by rw [hb7, n2, m2, k2]) (by rw [d3, c3, n3, m3, k3]) ?_
 have h9 : TS za8 tf7 t9 r7 ⟨W.1.names, W.1.consts, s.ws, s.ts, (((s.code ++ R.2) ++ ⟨10, ((s.code.length + R.2.length + 1 + G.2.length + 1 : Nat) : Int), 0⟩ :: (G.2 ++ [(⟨9, 0, 0⟩ : XIns)])) ++ W.2).set (s.code ++ R.2 ++ [(⟨10, 0, 0⟩ : XIns)] ++ G.2).length ⟨9, ((((s.code ++ R.2) ++ ⟨10, ((s.code.length + R.2.length + 1 + G.2.length + 1 : Nat) : Int), 0⟩ :: (G.2 ++ [(⟨9, 0, 0⟩ : XIns)])) ++ W.2).length : Nat), 0⟩⟩ := h9
 rw [e9, ecode2, zp1 e8] at h9; unfold XSt.put ifT; rw [eR, eG, eW]; have el : s.code ++ (R.2 ++ ⟨10, ((s.code.length + R.2.length + 1 + G.2.length + 1 : Nat) : Int), 0⟩ :: (G.2 ++ ⟨9, ((s.code.length + R.2.length + 1 + G.2.length + 1 + W.2.length : Nat) : Int), 0⟩ :: W.2)) =
  ((s.code ++ R.2) ++ ⟨10, ((s.code.length + R.2.length + 1 + G.2.length + 1 : Nat) : Int), 0⟩ :: G.2) ++ ⟨9, ((s.code.length + R.2.length + 1 + G.2.length + 1 + W.2.length : Nat) : Int), 0⟩ :: W.2 := by simp
 rw [el]; exact h9
theorem zzaf {op : Nat} {name : List Nat} {v : zcg} {args : List zam} {a b c : zab} {Q : zaw} (ih : ∀ x ∈ args, zlp x) (hfit : ∀ x ∈ args, x.fit) (hlen : args.length < zf9) : ∀ (l : List zam) (i : Nat) (t tf : Tr zal) (r : TR) (s : XSt), args.drop i = l -> z2i tf -> RSl tf 9 (args.map zam.d) c -> TS za8 tf t r s -> s.code.length + 4 * ze2 l < 300000 -> s.names.length + ze2 l < 300000 -> s.consts.length + ze2 l < 300000 →
  (∀ tf' t' r', TLe tf tf' -> r'.b = r.b -> r'.kp = r.kp -> TS za8 tf' t' r' (s.put (zh1 (trF za8 zan l) s.nt s.code.length).1 (zh1 (trF za8 zan l) s.nt s.code.length).2) -> Wc C19 F 170 [.ptr r.b 0, .agg (zex (.mk op name v args) a b c)] t' fun _ t'' => Q (.tup []) t'') →
  jp 104 4 [.ptr r.b 0, c, .int .i64 (args.length : Int), .int .i64 (i : Int), .int .u8 (op : Int), .str name, .int .u8 (v.kind : Int), .bool v.f.n.neg, a, .bool v.f.d.neg, b, .int .i64 v.i, c] t Q := by
 unfold zf9 at hlen; intro l; induction l with
 | nil =>
  intro i t tf r s hl hg hc h _ _ _ hQ; have := zmx hl
  refine zzfp _ _ _ _ _ _ _ _ _ _ _ _ _ ?_
  simp only [z6h, wpT, zat]; rw [if_neg (by omega), q170]
  refine hQ tf t r (TLe.refl _) rfl rfl ?_
  have : s.put (zh1 (trF za8 zan []) s.nt s.code.length).1 (zh1 (trF za8 zan []) s.nt s.code.length).2 = s := by
   simp [trF, zh1, XSt.put, XSt.nt]
  rw [this]; exact h
 | cons x l ihl =>
  intro i t tf r s hl hg hc h b1 b2 b3 hQ; obtain ⟨h1, h2, h3⟩ := zk3 hl
  have hx := List.mem_of_getElem? h1
  obtain ⟨p, o, x1, x2, x3, g1, g2, g3, g4, g5, g6, g7⟩ := zk1 hc h.os.tle h1
  refine zzfp _ _ _ _ _ _ _ _ _ _ _ _ _ ?_
  simp only [z6h, wpT, zat]; rw [if_pos (by omega), g1, zaa, g2, zaa, g4, zaa]
  simp only [zex, cellsOf, zix, zil, zde, ze6, yaa, yab]; refine zbf (z08 g5.one g6.one g7.one) ?_
  unfold ze2 at b1 b2 b3; have sx := zdh (key := za8) (valid := zan) x s.nt s.code.length
  rw [zzgv]; refine ih x hx _ t tf r s _ (hfit x hx) hg g3 h (by omega) (by omega) (by omega) fun tf1 t1 r1 k1 k2 k3 k4 => ?_
  rw [zak (by omega) (by omega), show (i : Int) + 1 = ((i + 1 : Nat) : Int) by omega, <- k2]
  have sx1 : (trX za8 zan x s.nt s.code.length).1.names.length <= s.names.length + zbl x := sx.2.1
  have sx2 : (trX za8 zan x s.nt s.code.length).1.consts.length <= s.consts.length + zbl x := sx.2.2
  have sx3 := sx.1
  refine ihl (i + 1) t1 tf1 r1 _ h2 (hg.mono k1) (hc.mono k1) k4 (by show (s.code ++ _).length + _ < _; rw [yah]; omega) (by show (trX za8 zan x s.nt s.code.length).1.names.length + _ < _; omega) (by show (trX za8 zan x s.nt s.code.length).1.consts.length + _ < _; omega) fun tf2 t2 r2 m1 m2 m3 m4 => ?_
  rw [k2]; refine hQ tf2 t2 r2 (k1.trans m1) (m2.trans k2) (m3.trans k3) ?_
  have e : s.put (zh1 (trF za8 zan (x :: l)) s.nt s.code.length).1 (zh1 (trF za8 zan (x :: l)) s.nt s.code.length).2 =
    (s.put (trX za8 zan x s.nt s.code.length).1 (trX za8 zan x s.nt s.code.length).2).put (zh1 (trF za8 zan l) (s.put (trX za8 zan x s.nt s.code.length).1 (trX za8 zan x s.nt s.code.length).2).nt (s.put (trX za8 zan x s.nt s.code.length).1 (trX za8 zan x s.nt s.code.length).2).code.length).1
     (zh1 (trF za8 zan l) (s.put (trX za8 zan x s.nt s.code.length).1 (trX za8 zan x s.nt s.code.length).2).nt (s.put (trX za8 zan x s.nt s.code.length).1 (trX za8 zan x s.nt s.code.length).2).code.length).2 := by
   simp [trF, zh1, XSt.put, XSt.nt]
  rw [e]; exact m4
theorem zzh8 {op : Nat} {name : List Nat} {v : zcg} {args : List zam} (ih : ∀ x ∈ args, zlp x) : zlp (.mk op name v args) := by
 intro cs t tf r s Q hfit hg hrd h b1 b2 b3 hQ; obtain ⟨a, b, c, rfl, ha, hb, hc⟩ := zhe hrd
 simp only [zam.op, zam.name, zam.v, zam.args] at ha hb hc; have hfit' := hfit
 unfold zam.fit at hfit'; obtain ⟨f1, f2, _, f3, f4, f5⟩ := hfit'
 have ffit := zam.fits_mem f5
 have hform := z9d hfit (hg.mono h.os.tle) (ha.mono h.os.tle) (hb.mono h.os.tle) (hc.mono h.os.tle)
 unfold zbl at b1 b2 b3; have etr : trX za8 zan (.mk op name v args) s.nt s.code.length = zlo za8 zan op name v (trF za8 zan args) s.nt s.code.length := by rw [trX]
 rw [etr] at hQ; unfold zlo at hQ; rw [zx6] at hQ; refine w104 _ _ _ _ _ _ _ _ _ _ ?_
 have hform' : pvC C19 F 167 [.agg [.int .u8 (op : Int), .str name, .int .u8 (v.kind : Int), .bool v.f.n.neg, a, .bool v.f.d.neg, b, .int .i64 v.i, c]] t = some (.bool (zc5 zan op v args.length)) := hform
 have pos : ∀ {k : Nat} {x y : T} {Q : zaw}, op = k -> wp 104 x t Q -> wp 104 (.ite (iEq (op : Int) (k : Int)) x y) t Q := fun h hx => zbf (zc3.2 (by omega)) hx
 have neg : ∀ {k : Nat} {x y : T} {Q : zaw}, op ≠ k -> wp 104 y t Q -> wp 104 (.ite (iEq (op : Int) (k : Int)) x y) t Q := fun h hy => zb5 (fun e => absurd (zc3.1 e) (by omega)) hy
 unfold t104; simp only [zam.op, zam.name, zam.v, zam.args]; show Wq C19 F za2 167 _ t _
 rw [q167, hform', zaa]; show zed (zab.asBool (.bool (zc5 zan op v args.length))) _
 rw [zax, zaa]
 cases hf : zc5 zan op v args.length with
 | false =>
  rw [if_pos hf] at hQ; refine zbf rfl ?_
  show Wq C19 F za2 168 _ t _
  rw [zzer]; exact zot (i := ⟨13, 0, 0⟩) h (by omega) fun tf' t' r' v' k1 k2 k3 k4 _ => hQ tf' t' r' k1 k2 k3 k4
 | true =>
  rw [if_neg (by rw [hf]; simp)] at hQ
  refine zb5 (by simp) ?_
  have hn := hf
  unfold zc5 at hn; simp only [yac, decide_eq_true_eq] at hn; by_cases c15 : op = 15
  ·refine pos c15 ?_
   rw [if_pos c15] at hQ; subst c15; have h2 : args.length = 2 := by have h1 := hn.1.2; have h2 := hn.2; simp [zra] at h1 h2; omega
   match args, h2 with
   | [x, y], _ =>
    simp only [ze2] at b1 b2 b3; refine zbf rfl ?_
    show Wq C19 F za2 169 _ t _
    rw [q169]; exact zmz (skip := 10) (truth := 0) (op := 15) (name := name) (v := v) (ih x (by simp)) (ih y (by simp)) rfl rfl (ffit x (by simp)) (ffit y (by simp)) hg hc h ⟨by decide, by decide⟩ (by omega) (by omega) (by omega) hQ
  ·refine neg c15 ?_
   rw [if_neg c15] at hQ; by_cases c16 : op = 16
   ·refine pos c16 ?_
    rw [if_pos c16] at hQ; subst c16; have h2 : args.length = 2 := by have h1 := hn.1.2; have h2 := hn.2; simp [zra] at h1 h2; omega
    match args, h2 with
    | [x, y], _ =>
     simp only [ze2] at b1 b2 b3; refine zbf rfl ?_
     show Wq C19 F za2 169 _ t _
     rw [q169]; exact zmz (skip := 11) (truth := 1) (op := 16) (name := name) (v := v) (ih x (by simp)) (ih y (by simp)) rfl rfl (ffit x (by simp)) (ffit y (by simp)) hg hc h ⟨by decide, by decide⟩ (by omega) (by omega) (by omega) hQ
   ·refine neg c16 ?_
    rw [if_neg c16] at hQ; by_cases c18 : op = 18
    ·refine pos c18 ?_
     rw [if_pos c18] at hQ; subst c18; have h2 : args.length = 3 := by have h1 := hn.1.2; have h2 := hn.2; simp [zra] at h1 h2; omega
     match args, h2 with
     | [x, y, z], _ =>
      simp only [ze2] at b1 b2 b3; exact if_ok (ih x (by simp)) (ih y (by simp)) (ih z (by simp)) rfl (ffit x (by simp)) (ffit y (by simp)) (ffit z (by simp)) hg hc h (by omega) (by omega) (by omega) hQ
    ·refine neg c18 ?_
     rw [if_neg c18] at hQ; have hl : zba c = some (.int .i64 (args.length : Int)) := by rw [hc.len, yag]
     show zed (zba c) _
     rw [hl, zaa]; show zed (zzcz .i64 (.int .i64 (args.length : Int))) _
     rw [zag, zaa]; refine zzaf (op := op) (name := name) (v := v) (a := a) (b := b) ih ffit f4 args 0 t tf r s (List.drop_zero) hg hc h (by omega) (by omega) (by omega) fun tf1 t1 r1 k1 k2 k3 k4 => ?_
     have sq := zpv (key := za8) (valid := zan) args (fun x _ => zdh x) s.nt s.code.length
     have sq1 : (zh1 (trF za8 zan args) s.nt s.code.length).1.names.length <= s.names.length + ze2 args := sq.2.1
     have sq2 : (zh1 (trF za8 zan args) s.nt s.code.length).1.consts.length <= s.consts.length + ze2 args := sq.2.2
     rw [<- k2]; refine zvz (x := .mk op name v args) k4 hfit (fun e => ?_) (by show (zh1 (trF za8 zan args) s.nt s.code.length).1.names.length < _; omega) (by show (zh1 (trF za8 zan args) s.nt s.code.length).1.consts.length < _; omega) (by show (s.code ++ _).length < _; rw [yah]; have := sq.1; omega) (ha.mono k1) (hb.mono k1) (hc.mono k1) fun tf2 t2 r2 m1 m2 m3 m4 => ?_
     ·have e : op = 1 := e
      have := hn.1.1
      rw [e] at this; simp at this; exact zxw this
     ·refine hQ tf2 t2 r2 (k1.trans m1) (m2.trans k2) (m3.trans k3) ?_
      have e : s.put (zd1 za8 op name v args.length (zh1 (trF za8 zan args) s.nt s.code.length).1).1 ((zh1 (trF za8 zan args) s.nt s.code.length).2 ++ [(zd1 za8 op name v args.length (zh1 (trF za8 zan args) s.nt s.code.length).1).2]) =
        (s.put (zh1 (trF za8 zan args) s.nt s.code.length).1 (zh1 (trF za8 zan args) s.nt s.code.length).2).put (zd1 za8 op name v args.length (s.put (zh1 (trF za8 zan args) s.nt s.code.length).1 (zh1 (trF za8 zan args) s.nt s.code.length).2).nt).1 [(zd1 za8 op name v args.length (s.put (zh1 (trF za8 zan args) s.nt s.code.length).1 (zh1 (trF za8 zan args) s.nt s.code.length).2).nt).2] := by
       simp [XSt.put, XSt.nt]
      show TS za8 tf2 t2 r2 (s.put _ _)
      rw [e]; exact m4
mutual
theorem z13 : ∀ x : zam, zlp x
 | .mk _ _ _ args => zzh8 (zww args)
theorem zww : ∀ l : List zam, ∀ x ∈ l, zlp x
 | [], x, h => by cases h
 | y :: l, x, h => by
  rcases yat.1 h with e | h
  ·rw [e]; exact z13 y
  ·exact zww l x h
end
end Go.Proofs
namespace Go.Am
open Go Go.RowKit
section
variable {t tf : Tr zal} {C : Ctx} {base : Nat}
def oS (base sz : Nat) (l : List D) (v : zab) : Thg where
 blks := if l = [] then [] else zjy v
 ok := fun tf t => if l = [] then RSl tf sz [] v else ∃ n, v = .slice n 0 l.length l.length /\ OwnD base tf t sz l n (some sz)
 keep := fun {tf t tf' t'} h hf k => by
  by_cases hl : l = []
  ·rw [if_pos hl] at h ⊢; exact h.mono hf
  ·rw [if_neg hl] at h k ⊢
   obtain ⟨n, rfl, h⟩ := h
   have := k n (by simp [zjy])
   exact ⟨n, rfl, h.grow hf this.2 this.1⟩
 live := fun {tf t} h k hk => by
  by_cases hl : l = []
  ·rw [if_pos hl] at hk; cases hk
  ·rw [if_neg hl] at h hk
   obtain ⟨n, rfl, _, _, _, ⟨c, hc, _⟩, _⟩ := h
   have : k = n := by simpa [zjy] using hk
   subst this; exact ⟨_, hc⟩
theorem zzeu {sz : Nat} {v : zab} (h : RSl tf sz [] v) : (oS base sz [] v).ok tf t := h
theorem z7n {sz n : Nat} {l : List D} (hl : l ≠ []) (h : OwnD base tf t sz l n (some sz)) : (oS base sz l (.slice n 0 l.length l.length)).ok tf t := by
 have e : (oS base sz l (.slice n 0 l.length l.length)).ok tf t = ∃ m, zab.slice n 0 l.length l.length = .slice m 0 l.length l.length /\ OwnD base tf t sz l m (some sz) := if_neg hl
 rw [e]; exact ⟨n, rfl, h⟩
theorem zv2 {sz : Nat} {l : List D} {v : zab} (hl : l ≠ []) (h : (oS base sz l v).ok tf t) : ∃ n, v = .slice n 0 l.length l.length /\ OwnD base tf t sz l n (some sz) := by
 have e : (oS base sz l v).ok tf t = ∃ m, v = .slice m 0 l.length l.length /\ OwnD base tf t sz l m (some sz) := if_neg hl
 rw [e] at h; exact h
theorem zzev {sz : Nat} {v : zab} (h : (oS base sz [] v).ok tf t) : RSl tf sz [] v := h
theorem zzg4 {sz : Nat} {l : List D} {v : zab} (h : (oS base sz l v).ok tf t) (ht : TLe tf t) : RSl t sz l v := by
 by_cases hl : l = []
 ·subst hl; exact (zzev h).mono ht
 ·obtain ⟨n, hv, ho⟩ := zv2 hl h
  subst hv; exact ho.read (.inr rfl) ht rfl (yal _)
theorem Objs.freezeS {A B : List Thg} {sz : Nat} {l : List D} {v : zab} (h : Objs base tf t (A ++ oS base sz l v :: B)) : ∃ tf', TLe tf tf' /\ Objs base tf' t (A ++ B) /\ RSl tf' sz l v := by
 have ho : (oS base sz l v).ok tf t := h.ok (oS base sz l v) (by simp)
 by_cases hl : l = []
 ·subst hl
  exact ⟨tf, TLe.refl _, h.drop, zzev ho⟩
 ·obtain ⟨n, rfl, h1, h2, cl, ⟨c, h3, h4⟩, h5, h6⟩ := zv2 hl ho
  have hn : n ∉ (A ++ B).flatMap Thg.blks := h.notin (o := oS base sz l _) (by simp [oS, hl, zjy])
  obtain ⟨k1, k2⟩ := h.drop.froze hn h3 h2
  refine ⟨_, k2, k1, ?_⟩
  have hlen := h6.length
  have := (⟨h1, h2, cl, ⟨c, h3, h4⟩, h5, h6⟩ : OwnD base tf t sz l n (some sz))
  refine ⟨cl, .inr ⟨n, 0, l.length, by rw [hlen], by omega, ⟨c, _, _, by rw [Tr.get_set, if_pos rfl], .inr rfl⟩, fun i cs hi => ⟨h5 i cs hi, c, _, _, (by rw [Tr.get_set, if_pos rfl]), fun j a hj => ?_⟩⟩, RDs.mono k2 _ _ h6⟩
  rw [yax]; exact h4 _ _ (zf1 h5 i j cs a hi hj)
theorem Objs.storeS {A B : List Thg} {sz : Nat} {l : List D} {v w : zab} (h : Objs C.base tf t (A ++ oS C.base sz l v :: B)) {i o S T el : Nat} {agg : Bool} {d d' : D} {y : ATy} (hi : l[i]? = some d) (hT : zjo C T el sz agg) (hS : C.tys.get S = some y) (hl : w.cells.length = y.size) (ho : o + w.cells.length <= sz) (hone : zeb zab.one w.cells = true)
  (hd : ∀ cs, cs.length = sz -> RD tf d cs -> RD tf d' (zic cs o w.cells)) :
  ∃ p, zaf C T v (.int .i64 (i : Int)) = some (.ptr p (0 + i * sz)) /\ ∃ t', (∀ n, zb3 C S (.ptr p (0 + i * sz + o)) w ⟨n, t⟩ = some (zbr, ⟨n, t'⟩)) /\ Objs C.base tf t' (A ++ oS C.base sz (l.set i d') v :: B) := by
 have hlt : i < l.length := (yad.1 hi).1
 have hne : l ≠ [] := by intro e; subst e; simp at hlt
 have hne' : l.set i d' ≠ [] := by intro e; have := congrArg List.length e; rw [List.length_set] at this; simp at this; exact hne (ybd.1 (by simpa using this))
 obtain ⟨n, rfl, ho'⟩ := zv2 hne (h.ok (oS C.base sz l v) (by simp))
 refine ⟨n, zb7 hT hlt, ?_⟩
 obtain ⟨t', g1, g2, g3⟩ := ho'.store hi hS hl ho hone hd
 rw [yax]; refine ⟨t', g1, ?_⟩
 refine Objs.upd (o := oS C.base sz l (.slice n 0 l.length l.length)) h (fun k k1 _ => g3 k (fun e => k1 (by simp [oS, hne, zjy, e]))) (fun k hk => .inl ?_) ?_ ?_ (h.tle.off ho'.2.1 g3)
 ·have : k = n := by simpa [oS, hne', zjy] using hk
  subst this; simp [oS, hne, zjy]
 ·have := z7n hne' g2
  rw [List.length_set] at this; exact this
 ·simp [oS, hne', zjy]
theorem zk5 {T el sz : Nat} (hT : zxq C T el sz) {L : List Thg} {l : List D} {x : zab} {W J : zhu} {Q : zaw} (heq : (zxd .eql).f C T (.tmp 3) (.const (.slice none 0 0)) x .nilslice = some (.bool (Nat.beq x.tag 5))) (hx : RSl tf sz l x) (h : Objs C.base tf t L) (hl : l.length < 1000000)
  (hQ : ∀ tf' t' v, TLe tf tf' -> Objs C.base tf' t' (oS C.base sz l v :: L) -> Q v t') :
  wpT C.base W J (.opt ((zxd .eql).f C T (.tmp 3) (.const (.slice none 0 0)) x .nilslice) fun a0 => .asB a0 fun b1 => .ite b1 (.ret .nilslice) (.heavy (za0 C T 0 []) fun a2 => .heavy (zbn C T T a2 x) fun a3 => .ret a3)) t Q := by
 obtain ⟨⟨y, hy1, hy2, hy3⟩, ⟨z, hz1, hz2, hz3, hz4, hz5⟩⟩ := hT
 obtain ⟨cl, he, hd⟩ := hx
 have hcl := hd.length
 simp only [wpT, heq, zaa, zax]; rcases he with ⟨rfl, rfl⟩ | ⟨bx, off, cap, rfl, hcap, hblk, he'⟩
 ·have : l = [] := ybd.1 hcl.symm
  subst this; have e : (Nat.beq zab.nilslice.tag 5) = true := rfl
  rw [if_pos e]; refine hQ tf t .nilslice (TLe.refl _) ?_
  exact Objs.add (A := []) (o' := oS C.base sz [] .nilslice) h (fun _ _ => rfl) (fun k hk => by simp [oS] at hk) (zzeu ⟨[], .inl ⟨rfl, rfl⟩, zbv.2 rfl⟩) (by simp [oS]) h.tle
 ·have e : (Nat.beq (zab.slice bx off cl.length cap).tag 5) = false := rfl
  rw [e, if_neg (by simp)]
  intro b hb hbb; have g1 : za0 C T 0 [] ⟨b, t⟩ = some (.slice b 0 0 0, za7 ⟨b, t⟩ [] none) := by
   unfold za0; rw [hy1, zac, hy2, zac, hz1, zac]; have : (Nat.blt (0 * z.size) 1000000 && Nat.beq (zbw z.zero) z.size) = true := by rw [Nat.zero_mul, hz3, hz2, zc0.2 rfl]; rfl
   rw [this]; rfl
  obtain ⟨t1, k1, k2, k3, k4⟩ := zqh hb ([] : List zab) none
  rw [k1] at g1; have h1 := h.junk hb k4
  rw [g1, zaa]; intro n hn hnb; have he1 : zhn t1 sz (.slice bx off cl.length cap) cl := (zhn.mono (h.tle.trans k3) (.inr ⟨bx, off, cap, rfl, hcap, hblk, he'⟩))
  obtain ⟨hf, hlen⟩ := he1.first (n := n)
  have hall := he1.len
  have hfl : zbw cl.flatten = cl.length * sz := by rw [zbb]; exact zf0 hall
  have base1 : zbn C T T (.slice b 0 0 0) (.slice bx off cl.length cap) ⟨n, t1⟩ = (bif Nat.ble (0 + cl.length) 0 then zfz C ⟨n, t1⟩ z cl.length cl.flatten (b, 0, 0, 0) else zhl C ⟨n, t1⟩ z cl.length cl.flatten (b, 0, 0, 0)) := by
   unfold zbn zge; rw [hy1, zac, zac, hy3]; simp only [Bool.not_false, zaz]; rw [hy2, zac, hz1, zac, hlen, zac, hz2, hf, zac]; rfl
  have ok : ziy z 0 0 cl.length cl.flatten = true := by
   unfold ziy; have h1 : Nat.blt (0 + cl.length + 0) 1000000000 = true := zdl.2 (by omega)
   have h2 : Nat.blt ((0 + cl.length + 0) * z.bytes) 1000000000 = true := zdl.2 (by
    have := Nat.mul_le_mul (show 0 + cl.length + 0 <= 1000000 by omega) hz4
    omega)
   have h3 : Nat.blt z.bytes 1000000000 = true := zdl.2 (by omega)
   have h4 : (!Nat.beq z.size 0) = true := by
    cases hq : Nat.beq z.size 0 with
    | true => have := zc0.1 hq; omega
    | false => rfl
   have h5 : Nat.beq (zbw cl.flatten) (cl.length * z.size) = true := by rw [hfl, hz2]; exact zc0.2 rfl
   have h6 : Nat.beq (zbw z.zero) z.size = true := by rw [hz3, hz2]; exact zc0.2 rfl
   rw [h1, h2, h3, h4, h5, h6]; rfl
  obtain ⟨cb, hcb, _⟩ := k2
  by_cases h0 : cl.length = 0
  ·have : cl = [] := ybd.1 h0
   subst this; have : l = [] := ybd.1 hcl.symm
   subst this; have e2 : zbn C T T (.slice b 0 0 0) (.slice bx off 0 cap) ⟨n, t1⟩ = some (.slice b 0 0 0, ⟨n, t1⟩) := by
    have := base1
    simp only [yay] at this; rw [this]; rfl
   have e3 : zbn C T T (.slice b 0 0 0) (.slice bx off ([] : List (List zab)).length cap) ⟨n, t1⟩ = some (.slice b 0 0 0, ⟨n, t1⟩) := e2
   rw [e3, zaa]; obtain ⟨m1, m2⟩ := h1.froze (h.fresh hb) hcb (h.tfn hb)
   refine hQ _ t1 (.slice b 0 0 0) m2 ?_
   refine Objs.add (A := []) (o' := oS C.base sz [] (.slice b 0 0 0)) m1 (fun _ _ => rfl) (fun k hk => by simp [oS] at hk) ?_ (by simp [oS]) m1.tle
   exact zzeu ⟨[], .inr ⟨b, 0, 0, rfl, yal _, ⟨cb, 0, none, by rw [Tr.get_set, if_pos rfl]; rfl, .inl rfl⟩, fun i cs hi => by simp at hi⟩, zbv.2 rfl⟩
  ·have hl0 : l ≠ [] := by intro e; subst e; simp at hcl; exact h0 (by rw [hcl]; rfl)
   have ebl : Nat.ble (0 + cl.length) 0 = false := by
    cases hq : Nat.ble (0 + cl.length) 0 with
    | true => have := zj2.1 hq; omega
    | false => rfl
   have e2 : zbn C T T (.slice b 0 0 0) (.slice bx off cl.length cap) ⟨n, t1⟩ = some (.slice n 0 l.length l.length, za7 ⟨n, t1⟩ cl.flatten (some sz)) := by
    rw [base1, ebl, cond_false]; unfold zhl; simp only []; rw [ok, zaz]; unfold za1; rw [hcb, zac]; simp only [zal.asCells, zac]; unfold zhk; simp only [Nat.zero_mul]
    show ob (cb.many 0 0) _ = _
    rw [show cb.many 0 0 = some [] from rfl, zac, zcl, List.nil_append, yax, hz2, hcl]
   obtain ⟨t2, m1, m2, m3, m4⟩ := zqh hn cl.flatten (some sz)
   rw [m1] at e2; rw [e2, zaa]; refine hQ tf t2 _ (TLe.refl _) ?_
   refine Objs.add (A := []) (o' := oS C.base sz l (.slice n 0 l.length l.length)) h1 (fun k hk => m4 k (fun e => hk (by simp [oS, hl0, zjy, e]))) (fun k hk => ?_) ?_ (by simp [oS, hl0, zjy]) (h1.tle.off (h1.tfn hn) m4)
   ·have : k = n := by simpa [oS, hl0, zjy] using hk
    subst this; exact ⟨hn, hnb⟩
   ·exact z7n hl0 ⟨hnb, h1.tfn hn, cl, m2, hall, hd⟩
end
end Go.Am
namespace Go.Proofs
open Go Go.Am
variable [zcf]
variable {t tf : Tr zal}
def zu1 : zam := .mk 0 [] ⟨0, ⟨⟨false, []⟩, ⟨false, []⟩⟩, 0⟩ []
def zm3 (c : za4) : za4 := ⟨c.name, c.label, c.from_, c.to, c.known, c.off, zu1, zu1⟩
theorem el22 : zxq C19 22 79 3 := ⟨⟨_, ty22, rfl, rfl⟩, ⟨_, ty79, rfl, rfl, by decide, by decide⟩⟩
theorem el23 : zxq C19 23 82 3 := ⟨⟨_, ty23, rfl, rfl⟩, ⟨_, ty82, rfl, rfl, by decide, by decide⟩⟩
theorem el24 : zxq C19 24 52 24 := ⟨⟨_, ty24, rfl, rfl⟩, ⟨_, ty52, rfl, rfl, by decide, by decide⟩⟩
theorem el80 : zxq C19 80 85 7 := ⟨⟨_, ty80, rfl, rfl⟩, ⟨_, ty85, rfl, rfl, by decide, by decide⟩⟩
theorem z1d {T sz : Nat} {l : List D} {v : zab} (hv : RSl t sz l v) (h1 : (zxd .eql).f C19 T (.tmp 3) (.const (.slice none 0 0)) .nilslice .nilslice = some (.bool true)) (h2 : ∀ b o n c, (zxd .eql).f C19 T (.tmp 3) (.const (.slice none 0 0)) (.slice b o n c) .nilslice = some (.bool false)) : (zxd .eql).f C19 T (.tmp 3) (.const (.slice none 0 0)) v .nilslice = some (.bool (Nat.beq v.tag 5)) := by
 obtain ⟨cl, h, _⟩ := hv
 rcases h with ⟨rfl, _⟩ | ⟨b, off, cap, rfl, _⟩
 ·exact h1
 ·exact h2 _ _ _ _
theorem zzik {L : List Thg} {l : List D} {x : zab} {Q : zaw} (hx : RSl tf 3 l x) (h : Objs C19.base tf t L) (hl : l.length < 1000000) (hQ : ∀ tf' t' v, TLe tf tf' -> Objs C19.base tf' t' (oS C19.base 3 l v :: L) -> Q v t') : Wc C19 F 99 [x] t Q :=
 w99 _ (zk5 el22 (z1d hx (by kernel_rfl) fun b o n c => by kernel_rfl) hx h hl hQ)
theorem zzdu {L : List Thg} {l : List D} {x : zab} {Q : zaw} (hx : RSl tf 3 l x) (h : Objs C19.base tf t L) (hl : l.length < 1000000) (hQ : ∀ tf' t' v, TLe tf tf' -> Objs C19.base tf' t' (oS C19.base 3 l v :: L) -> Q v t') : Wc C19 F 100 [x] t Q :=
 w100 _ (zk5 el23 (z1d hx (by kernel_rfl) fun b o n c => by kernel_rfl) hx h hl hQ)
theorem zzdt {L : List Thg} {l : List D} {x : zab} {Q : zaw} (hx : RSl tf 7 l x) (h : Objs C19.base tf t L) (hl : l.length < 1000000) (hQ : ∀ tf' t' v, TLe tf tf' -> Objs C19.base tf' t' (oS C19.base 7 l v :: L) -> Q v t') : Wc C19 F 101 [x] t Q :=
 w101 _ (zk5 el80 (z1d hx (by kernel_rfl) fun b o n c => by kernel_rfl) hx h hl hQ)
theorem zzds {L : List Thg} {l : List D} {x : zab} {Q : zaw} (hx : RSl tf 24 l x) (h : Objs C19.base tf t L) (hl : l.length < 1000000) (hQ : ∀ tf' t' v, TLe tf tf' -> Objs C19.base tf' t' (oS C19.base 24 l v :: L) -> Q v t') : Wc C19 F 103 [x] t Q :=
 w103 _ (zk5 el24 (z1d hx (by kernel_rfl) fun b o n c => by kernel_rfl) hx h hl hQ)
theorem zqf {A B : List Thg} {sz : Nat} {l : List D} {v : zab} (h : Objs C19.base tf t (A ++ oS C19.base sz l v :: B)) : RSl t sz l v := zzg4 (h.ok (oS C19.base sz l v) (by simp)) h.tle
theorem z0s {α : Type} {l : List α} {i : Nat} {d : α} (h : l[i]? = some d) : l.set i d = l := by
 apply List.ext_getElem?
 intro k; rw [List.getElem?_set]; split
 ·rename_i e; subst e
  rw [if_pos (yad.1 h).1]; exact h.symm
 ·rfl
theorem mk_row {x : zhs} {u v : zab} (hu : RSl t 1 (zd2 x.f.n.limbs) u) (hv : RSl t 1 (zd2 x.f.d.limbs) v) : RD t x.d [.int .i64 x.a, .int .i64 x.b, .int .i64 x.known, .bool x.f.n.neg, u, .bool x.f.d.neg, v] := by
 unfold zhs.d; rw [zig]; refine ⟨[[.int .i64 x.a], [.int .i64 x.b], [.int .i64 x.known], [.bool x.f.n.neg, u, .bool x.f.d.neg, v]], rfl, ?_⟩
 simp only [zbc, zbv, zgk]; exact ⟨_, _, rfl, rfl, _, _, rfl, rfl, _, _, rfl, rfl, _, _, rfl, z7q hu hv, rfl⟩
theorem zzch {x : zb9} {v : zab} (hv : RSl t 7 (x.rows.map zhs.d) v) : RD t x.d [.str x.name, .bool x.two, v] := by
 unfold zb9.d; rw [zig]; refine ⟨[[.str x.name], [.bool x.two], [v]], rfl, ?_⟩
 simp only [zbc, zbv, zkn, zih, zk9]; exact ⟨_, _, rfl, rfl, _, _, rfl, rfl, _, _, rfl, ⟨v, rfl, hv⟩, rfl⟩
def zu2 : List zab := [.int .u8 0, .str [], .int .u8 0, .bool false, .nilslice, .bool false, .nilslice, .int .i64 0, .nilslice]
theorem z7p : RD t zu1.d zu2 := by
 unfold zu1 zam.d zu2; rw [zig]; refine ⟨[[.int .u8 0], [.str []], [.int .u8 0, .bool false, .nilslice, .bool false, .nilslice, .int .i64 0], [.nilslice]], rfl, ?_⟩
 rw [zbc]; refine ⟨_, _, rfl, zgk.2 rfl, ?_⟩
 rw [zbc]; refine ⟨_, _, rfl, zkn.2 rfl, ?_⟩
 rw [zbc]; refine ⟨_, _, rfl, zzey (x := ⟨0, ⟨⟨false, []⟩, ⟨false, []⟩⟩, 0⟩) zp4 zp4, ?_⟩
 rw [zbc]; refine ⟨_, _, rfl, ?_, zbv.2 rfl⟩
 rw [zk9]; exact ⟨.nilslice, rfl, zp4⟩
theorem zv4 {x : za4} {cs ds : List zab} (h1 : RD t x.when_.d cs) (h2 : RD t x.then_.d ds) : RD t x.d ([.str x.name, .str x.label, .int .i64 x.from_, .int .i64 x.to, .int .i64 x.known, .bool x.off] ++ (cs ++ ds)) := by
 unfold za4.d; rw [zig]; refine ⟨[[.str x.name], [.str x.label], [.int .i64 x.from_], [.int .i64 x.to], [.int .i64 x.known], [.bool x.off], cs, ds], by simp, ?_⟩
 simp only [zbc, zbv, zkn, zgk, zih]; exact ⟨_, _, rfl, rfl, _, _, rfl, rfl, _, _, rfl, rfl, _, _, rfl, rfl, _, _, rfl, rfl, _, _, rfl, rfl, _, _, rfl, h1, _, _, rfl, h2, rfl⟩
theorem z6r {r : zhs} {two : Bool} (h : zjr two r = true) : r.f.n.limbs.length < 400 /\ r.f.d.limbs.length < 400 := by
 unfold zjr at h; simp only [yac] at h; have h := h.2
 unfold zl5 at h; simp only [yac, decide_eq_true_eq] at h; have h1 := h.1.1.1.1.1.1
 have h2 := h.1.1.1.1.1.2
 exact ⟨by omega, by omega⟩
theorem z0i {x : zb9} (h : zld x = true) : x.rows.length <= 400 /\ ∀ r ∈ x.rows, r.f.n.limbs.length < 400 /\ r.f.d.limbs.length < 400 := by
 unfold zld at h; simp only [yac, decide_eq_true_eq, Bool.not_eq_true', List.any_eq_false] at h; exact ⟨h.1.1.2, fun r hr => z6r (two := x.two) (by have := h.2 r hr; simpa using this)⟩
section
variable {L : List Thg} {p : zi6} {a c : zab}
theorem zzad {i : Nat} {x : zb9} {vt vr : zab} {Q : zaw} (hx : p.tables[i]? = some x) (hv : zld x = true) :
  ∀ (m j : Nat) (t tf : Tr zal), j + m = x.rows.length -> Objs C19.base tf t (oS C19.base 7 (x.rows.map zhs.d) vr :: oS C19.base 3 (p.tables.map zb9.d) vt :: L) →
  (∀ tf' t', TLe tf tf' -> Objs C19.base tf' t' (oS C19.base 3 (p.tables.map zb9.d) vt :: L) -> jp 51 2 [vt, .int .i64 (p.tables.length : Int), .int .i64 ((i + 1 : Nat) : Int), .str p.name, a, vt, c, .str [], .nilslice, .nilslice, .nilslice] t' Q) -> i < 1000000 →
  jp 51 6 [.int .i64 (i : Int), vr, vt, .int .i64 (p.tables.length : Int), .int .i64 (i : Int), vr, .int .i64 (x.rows.length : Int), .int .i64 (j : Int), .str p.name, a, vt, c, .str [], .nilslice, .nilslice, .nilslice] t Q := by
 obtain ⟨hr1, hr2⟩ := z0i hv
 intro m; induction m with
 | zero =>
  intro j t tf hj h hQ hi; refine j51_6 _ _ _ _ _ _ _ _ _ _ _ _ _ _ _ _ ?_
  simp only [zzgj, wpT, zat]; rw [if_neg (by omega)]
  obtain ⟨tf1, k1, k2, k3⟩ := Objs.freezeS (A := []) h
  have hix : (p.tables.map zb9.d)[i]? = some x.d := by rw [yav, hx]; rfl
  obtain ⟨q, g1, t1, g2, g3⟩ := Objs.storeS (A := []) (w := vr) (o := 2) (S := 80) k2 hix sl23 (d' := x.d) ty80 (by
   obtain ⟨cl, hh, _⟩ := k3
   rcases hh with ⟨rfl, _⟩ | ⟨_, _, _, rfl, _⟩ <;> rfl) (by
   obtain ⟨cl, hh, _⟩ := k3
   rcases hh with ⟨rfl, _⟩ | ⟨_, _, _, rfl, _⟩ <;> (show 2 + 1 <= 3; decide)) (by
   have := k3.one
   obtain ⟨cl, hh, _⟩ := k3
   rcases hh with ⟨rfl, _⟩ | ⟨_, _, _, rfl, _⟩ <;> rfl) (fun cs hc hrd => by
   obtain ⟨w, rfl, _⟩ := zo3 hrd
   have e : zic [.str x.name, .bool x.two, w] 2 vr.cells = [.str x.name, .bool x.two, vr] := by
    obtain ⟨cl, hh, _⟩ := k3
    rcases hh with ⟨rfl, _⟩ | ⟨_, _, _, rfl, _⟩ <;> rfl
   rw [e]; exact zzch k3)
  rw [z0s hix] at g3; have fa : zaj C19 82 2 (.ptr q (0 + i * 3)) = some (.ptr q (0 + i * 3 + 2)) := by
   unfold zaj zf4; rw [ty82, zac]; rfl
  rw [g1, zaa, fa, zaa]; intro n _ _; rw [g2, zaa, zak (by omega) (by omega), show (i : Int) + 1 = ((i + 1 : Nat) : Int) by omega]
  exact hQ tf1 t1 k1 g3
 | succ m ih =>
  intro j t tf hj h hQ hi; have hlt : j < x.rows.length := by omega
  have hjr : x.rows[j]? = some x.rows[j] := yae hlt
  have hsl : RSl t 7 (x.rows.map zhs.d) vr := zqf (A := []) h
  obtain ⟨b, off, u, w, g1, g2, gx, gy, g5⟩ := z0x hsl hlt
  have hown : (oS C19.base 7 (x.rows.map zhs.d) vr).ok tf t := h.ok (oS C19.base 7 (x.rows.map zhs.d) vr) (by simp)
  have hne : x.rows.map zhs.d ≠ [] := by intro e; have := congrArg List.length e; simp at this; simp [this] at hlt
  obtain ⟨nb, hvr, ho⟩ := zv2 hne hown
  obtain ⟨cs, _, hrd, hat⟩ := ho.cells (i := j) (d := x.rows[j].d) (by simp [hjr])
  obtain ⟨u', w', rfl, hu', hw'⟩ := z01 hrd
  have g1' : zaf C19 80 vr (.int .i64 (j : Int)) = some (.ptr nb (0 + j * 7)) := by rw [hvr]; exact zb7 sl80 (by simpa using hlt)
  rw [g1'] at g1; have hEq : b = nb /\ off = 0 + j * 7 := by cases g1; exact ⟨rfl, rfl⟩
  rw [hEq.1, hEq.2] at g2; have ld2 : zap C19 85 ⟨0, t⟩ (.ptr nb (0 + j * 7)) = some (.agg [.int .i64 x.rows[j].a, .int .i64 x.rows[j].b, .int .i64 x.rows[j].known, .bool x.rows[j].f.n.neg, u', .bool x.rows[j].f.d.neg, w']) := by
   have := hat.load (C := C19) (j := 0) ty85 rfl rfl (by simp)
   rw [yax]; exact this
  rw [ld2] at g2; have e3 : u' = u /\ w' = w := by cases g2; exact ⟨rfl, rfl⟩
  rw [e3.1] at hu'
  rw [e3.2] at hw'
  rw [e3.1, e3.2] at ld2; have hs := hr2 _ (List.getElem_mem hlt)
  refine j51_6 _ _ _ _ _ _ _ _ _ _ _ _ _ _ _ _ ?_
  simp only [zzgj, wpT, zat]; rw [if_pos (by omega), g1', zaa, ld2, zaa, g5, zaa]
  simp only [cellsOf, zix, zde, ze6, yaa, yab]; have hone : zeb zab.one [.int .i64 x.rows[j].a, .int .i64 x.rows[j].b, .int .i64 x.rows[j].known, .bool x.rows[j].f.n.neg, u, .bool x.rows[j].f.d.neg, w] = true := by
   rw [zcb]; simp only [ybh, List.all_nil, gx.one, gy.one]; rfl
  refine zbf hone ?_
  rw [if_pos trivial, q102]; refine z9y (v := ⟨0, x.rows[j].f, 0⟩) h ⟨hs.1, hs.2⟩ hu' hw' fun tf1 t1 a' b' k1 k2 k3 k4 => ?_
  have hz : zrc [(.int .u8 0), (.bool false), .nilslice, (.bool false), .nilslice, (.int .i64 0)] (.agg [.int .u8 ((0 : Nat) : Int), .bool x.rows[j].f.n.neg, a', .bool x.rows[j].f.d.neg, b', .int .i64 0]) = some (cellsOf [.int .u8 ((0 : Nat) : Int), .bool x.rows[j].f.n.neg, a', .bool x.rows[j].f.d.neg, b', .int .i64 0]) := zhq (by
   show (true && (true && (zj1 .nilslice a' && (true && (zj1 .nilslice b' && true))))) = true
   rw [zbi k3, zbi k4]; rfl)
  rw [hz, zaa]; simp only [cellsOf, zde, ze6, yaa, yab]; have hix : (x.rows.map zhs.d)[j]? = some x.rows[j].d := by simp [hjr]
  obtain ⟨q, f1, t2, f2, f3⟩ := Objs.storeS (A := []) (w := .agg [.bool x.rows[j].f.n.neg, a', .bool x.rows[j].f.d.neg, b']) (o := 3) (S := 45) k2 hix sl80 (d' := x.rows[j].d) ty45 rfl (by show 3 + 4 <= 7; decide) (by
   show zeb zab.one [.bool x.rows[j].f.n.neg, a', .bool x.rows[j].f.d.neg, b'] = true
   rw [zcb]; simp only [ybh, List.all_nil, k3.one, k4.one]; rfl) (fun cs hc hrd => by
   obtain ⟨u1, w1, rfl, _, _⟩ := z01 hrd
   exact mk_row k3 k4)
  rw [z0s hix] at f3; have fa : zaj C19 85 3 (.ptr nb (0 + j * 7)) = some (.ptr nb (0 + j * 7 + 3)) := by
   unfold zaj zf4; rw [ty85, zac]; rfl
  have eq : q = nb := by rw [g1'] at f1; cases f1; rfl
  rw [eq] at f2; rw [zaa, fa, zaa]; intro n _ _; rw [f2, zaa, zak (by omega) (by omega), show (j : Int) + 1 = ((j + 1 : Nat) : Int) by omega]
  exact ih (j + 1) t2 tf1 (by omega) f3 (fun tf' t' m1 m2 => hQ tf' t' (k1.trans m1) m2) hi
theorem zxe {vc vt : zab} {Q : zaw} (hn : p.clauses.length < 1000000) :
  ∀ (m i : Nat) (t tf : Tr zal), i + m = p.clauses.length -> Objs C19.base tf t (oS C19.base 24 ((((p.clauses.take i).map zm3) ++ p.clauses.drop i).map za4.d) vc :: L) →
  (∀ t', Objs C19.base tf t' (oS C19.base 24 ((p.clauses.map zm3).map za4.d) vc :: L) -> Q (.agg [.str p.name, a, vt, vc]) t') -> zab.one a = true -> zab.one vt = true →
  jp 51 10 [.int .i64 (p.clauses.length : Int), .int .i64 (i : Int), .str p.name, a, vt, vc, .str [], .nilslice, .nilslice, .nilslice] t Q := by
 intro m; induction m with
 | zero =>
  intro i t tf hi h hQ ha ht; refine zze4 _ _ _ _ _ _ _ _ _ _ ?_
  simp only [z5o, wpT, zat]; rw [if_neg (by omega)]
  have hsl : RSl t 24 _ vc := zqf (A := []) h
  have hone : zeb zab.one [.str p.name, a, vt, vc] = true := by rw [zcb]; simp only [ybh, List.all_nil, ha, ht, hsl.one]; rfl
  rw [if_pos hone]; rw [ybb (by omega), yau (by omega), ybe] at h
  exact hQ t h
 | succ m ih =>
  intro i t tf hi h hQ ha ht; have hlt : i < p.clauses.length := by omega
  have hx : p.clauses[i]? = some p.clauses[i] := yae hlt
  have hlen : ((p.clauses.take i).map zm3).length = i := by simp; omega
  have hget : ((((p.clauses.take i).map zm3) ++ p.clauses.drop i).map za4.d)[i]? = some p.clauses[i].d := by
   rw [yav, yaq (by omega), hlen, Nat.sub_self, List.getElem?_drop, Nat.add_zero, hx]; rfl
  have hsl : RSl t 24 _ vc := zqf (A := []) h
  refine zze4 _ _ _ _ _ _ _ _ _ _ ?_
  simp only [z5o, wpT, zat]; rw [if_pos (by omega), if_pos trivial, if_pos trivial]
  obtain ⟨q, g1, t1, g2, g3⟩ := Objs.storeS (A := []) (w := .agg zu2) (o := 6) (S := 50) h hget sl24 (d' := (⟨p.clauses[i].name, p.clauses[i].label, p.clauses[i].from_, p.clauses[i].to, p.clauses[i].known, p.clauses[i].off, zu1, p.clauses[i].then_⟩ : za4).d) ty50 rfl (by show 6 + 9 <= 24; decide) rfl (fun cs hc hrd => by
   obtain ⟨u1, u2, u3, w1, w2, w3, rfl, h1, h2⟩ := zp7 hrd
   exact zv4 (x := ⟨p.clauses[i].name, p.clauses[i].label, p.clauses[i].from_, p.clauses[i].to, p.clauses[i].known, p.clauses[i].off, zu1, p.clauses[i].then_⟩) z7p h2)
  have fa : zaj C19 52 6 (.ptr q (0 + i * 24)) = some (.ptr q (0 + i * 24 + 6)) := by
   unfold zaj zf4; rw [ty52, zac]; rfl
  rw [g1, zaa, fa, zaa]; intro n _ _; rw [show (zab.agg [.int .u8 0, .str [], .int .u8 0, .bool false, .nilslice, .bool false, .nilslice, .int .i64 0, .nilslice]) = .agg zu2 from rfl, g2, zaa, if_pos hsl.same]
  have hget2 : (((((p.clauses.take i).map zm3) ++ p.clauses.drop i).map za4.d).set i (⟨p.clauses[i].name, p.clauses[i].label, p.clauses[i].from_, p.clauses[i].to, p.clauses[i].known, p.clauses[i].off, zu1, p.clauses[i].then_⟩ : za4).d)[i]? = some (⟨p.clauses[i].name, p.clauses[i].label, p.clauses[i].from_, p.clauses[i].to, p.clauses[i].known, p.clauses[i].off, zu1, p.clauses[i].then_⟩ : za4).d := by
   rw [List.getElem?_set, if_pos rfl, if_pos (by simp; omega)]
  obtain ⟨q2, f1, t2, f2, f3⟩ := Objs.storeS (A := []) (w := .agg zu2) (o := 15) (S := 50) g3 hget2 sl24 (d' := (zm3 p.clauses[i]).d) ty50 rfl (by show 15 + 9 <= 24; decide) rfl (fun cs hc hrd => by
   obtain ⟨u1, u2, u3, w1, w2, w3, rfl, h1, h2⟩ := zp7 hrd
   exact zv4 (x := zm3 p.clauses[i]) h1 z7p)
  rw [List.set_set] at f3; have fb : zaj C19 52 7 (.ptr q2 (0 + i * 24)) = some (.ptr q2 (0 + i * 24 + 15)) := by
   unfold zaj zf4; rw [ty52, zac]; rfl
  rw [f1] at g1
  cases g1
  simp only [zaa, fb]; intro n2 _ _; rw [f2, zaa, zak (by omega) (by omega), show (i : Int) + 1 = ((i + 1 : Nat) : Int) by omega]
  have hset : ((((p.clauses.take i).map zm3) ++ p.clauses.drop i).map za4.d).set i (zm3 p.clauses[i]).d = (((p.clauses.take (i + 1)).map zm3) ++ p.clauses.drop (i + 1)).map za4.d := by
   have e1 : p.clauses.drop i = p.clauses[i] :: p.clauses.drop (i + 1) := yam hlt
   have e2 : p.clauses.take (i + 1) = p.clauses.take i ++ [p.clauses[i]] := by rw [List.take_add_one, hx]; rfl
   rw [e1, e2, List.map_append (f := za4.d), List.map_cons (f := za4.d), zp1 (by simp; omega), List.map_append (f := zm3)]
   simp only [List.map_append, List.map_cons, List.map_nil, yba, List.singleton_append]
  rw [hset] at f3; exact ih (i + 1) t2 tf (by omega) f3 hQ ha ht
end
end Go.Proofs
namespace Go.Proofs
open Go Go.Am
variable [zcf]
variable {t tf : Tr zal}
section
variable {L : List Thg} {p : zi6} {a c : zab}
theorem zzy {vt : zab} {Q : zaw} (hp : p.fit) (hb : zfm p = true) (ha : zab.one a = true) :
  ∀ (m i : Nat) (t tf : Tr zal), i + m = p.tables.length -> Objs C19.base tf t (oS C19.base 3 (p.tables.map zb9.d) vt :: L) -> RSl tf 24 (p.clauses.map za4.d) c →
  (∀ tf' t' vc, TLe tf tf' -> Objs C19.base tf' t' (oS C19.base 24 ((p.clauses.map zm3).map za4.d) vc :: oS C19.base 3 (p.tables.map zb9.d) vt :: L) -> Q (.agg [.str p.name, a, vt, vc]) t') →
  jp 51 2 [vt, .int .i64 (p.tables.length : Int), .int .i64 (i : Int), .str p.name, a, vt, c, .str [], .nilslice, .nilslice, .nilslice] t Q := by
 unfold zfm at hb; simp only [yac, decide_eq_true_eq] at hb; obtain ⟨⟨⟨⟨hb1, hb2⟩, hb3⟩, hb4⟩, hb5⟩ := hb
 intro m; induction m with
 | zero =>
  intro i t tf hi h hc hQ; refine j51_2 _ _ _ _ _ _ _ _ _ _ _ ?_
  simp only [zzgk, wpT, zat]; rw [if_neg (by omega), q103]
  refine zzds hc h (by rw [yag]; omega) fun tf1 t1 vc k1 k2 => ?_
  have hsl : RSl t1 24 _ vc := zqf (A := []) k2
  have hone : zeb zab.one [vc] = true := by rw [zcb]; simp only [ybh, List.all_nil, hsl.one]; rfl
  rw [if_pos hone, hsl.len, zaa, yag, zag, zaa]; have hvt : RSl t1 3 _ vt := zqf (A := [oS C19.base 24 (p.clauses.map za4.d) vc]) k2
  exact zxe (p := p) (vt := vt) (by omega) p.clauses.length 0 t1 tf1 (by omega) (by simpa using k2) (fun t' h' => hQ tf1 t' vc k1 h') ha hvt.one
 | succ m ih =>
  intro i t tf hi h hc hQ; have hlt : i < p.tables.length := by omega
  have hx : p.tables[i]? = some p.tables[i] := yae hlt
  have hv : zld p.tables[i] = true := ybc.1 hb5 _ (List.getElem_mem hlt)
  have hr := (z0i hv).1
  have hown : (oS C19.base 3 (p.tables.map zb9.d) vt).ok tf t := h.ok (oS C19.base 3 (p.tables.map zb9.d) vt) (by simp)
  have hne : p.tables.map zb9.d ≠ [] := by intro e; have := congrArg List.length e; simp at this; simp [this] at hlt
  obtain ⟨nb, hvt, ho⟩ := zv2 hne hown
  obtain ⟨cs, _, hrd, hat⟩ := ho.cells (i := i) (d := p.tables[i].d) (by simp [hx])
  have hz := zkm hrd (zb9.zs _)
  obtain ⟨w, rfl, hw⟩ := zo3 hrd
  have g1 : zaf C19 23 vt (.int .i64 (i : Int)) = some (.ptr nb (0 + i * 3)) := by rw [hvt]; exact zb7 sl23 (by simpa using hlt)
  have ld : zap C19 82 ⟨0, t⟩ (.ptr nb (0 + i * 3)) = some (.agg [.str p.tables[i].name, .bool p.tables[i].two, w]) := by
   have := hat.load (C := C19) (j := 0) ty82 rfl rfl (by simp)
   rw [yax]; exact this
  have hone : zeb zab.one [.str p.tables[i].name, .bool p.tables[i].two, w] = true := by rw [zcb]; simp only [ybh, List.all_nil, hw.one]; rfl
  refine j51_2 _ _ _ _ _ _ _ _ _ _ _ ?_
  simp only [zzgk, wpT, zat]; rw [if_pos (by omega), g1, zaa, ld, zaa, hz, zaa]
  simp only [cellsOf, zil, zde, ze6, yaa, yab]; refine zbf hone ?_
  rw [q101]; refine zzdt hw h (by rw [yag]; omega) fun tf1 t1 vr k1 k2 => ?_
  have hsl : RSl t1 7 _ vr := zqf (A := []) k2
  rw [hsl.len, zaa, yag, zag, zaa]; refine zzad (a := a) (c := c) hx hv p.tables[i].rows.length 0 t1 tf1 (by omega) k2 (fun tf2 t2 m1 m2 => ?_) (by omega)
  exact ih (i + 1) t2 tf2 (by omega) m2 (hc.mono (k1.trans m1)) fun tf3 t3 vc n1 n2 => hQ tf3 t3 vc (k1.trans (m1.trans n1)) n2
theorem zzip {cs : List zab} {Q : zaw} (hp : p.fit) (hb : zfm p = true) (hrd : RD tf p.d cs) (h : Objs C19.base tf t L)
  (hQ : ∀ tf' t' a' b' c', TLe tf tf' -> Objs C19.base tf' t' L -> RSl tf' 3 (p.defs.map zxp.d) a' -> RSl tf' 3 (p.tables.map zb9.d) b' -> RSl tf' 24 ((p.clauses.map zm3).map za4.d) c' -> Q (.agg [.str p.name, a', b', c']) t') : Wc C19 F 51 [.agg cs] t Q := by
 obtain ⟨a, b, c, rfl, ha, hbb, hc⟩ := zp6 hrd
 have hb' := hb
 unfold zfm at hb'; simp only [yac, decide_eq_true_eq] at hb'
 obtain ⟨⟨⟨⟨hb1, hb2⟩, hb3⟩, hb4⟩, hb5⟩ := hb'
 refine w51 _ _ _ _ ?_
 simp only [t51, wpT, q99]; refine zzik ha h (by rw [yag]; omega) fun tf1 t1 va k1 k2 => ?_
 obtain ⟨tf2, m1, m2, m3⟩ := Objs.freezeS (A := []) k2
 have hone : zeb zab.one [va] = true := by rw [zcb]; simp only [ybh, List.all_nil, m3.one]; rfl
 rw [if_pos hone, q100]; refine zzdu (hbb.mono (k1.trans m1)) m2 (by rw [yag]; omega) fun tf3 t3 vt n1 n2 => ?_
 have hsl : RSl t3 3 _ vt := zqf (A := []) n2
 have hone2 : zeb zab.one [vt] = true := by rw [zcb]; simp only [ybh, List.all_nil, hsl.one]; rfl
 rw [if_pos hone2, hsl.len, zaa, yag, zag, zaa]; refine zzy hp hb m3.one p.tables.length 0 t3 tf3 (by omega) n2 (hc.mono (k1.trans (m1.trans n1))) fun tf4 t4 vc q1 q2 => ?_
 obtain ⟨tf5, r1, r2, r3⟩ := Objs.freezeS (A := []) q2
 obtain ⟨tf6, s1, s2, s3⟩ := Objs.freezeS (A := []) r2
 exact hQ tf6 t4 va vt vc (k1.trans (m1.trans (n1.trans (q1.trans (r1.trans s1))))) s2 (m3.mono (n1.trans (q1.trans (r1.trans s1)))) s3 (r3.mono s1)
end
def tsW (r : TR) (s : XSt) : List Thg :=
 [zfp r.b none r.cells, zfx r.m1 (zay 0 s.names), zfx r.m2 (zay 0 (s.consts.map za8)), zau C19.base 1 (s.names.map D.str) r.vn, zau C19.base 6 (s.consts.map zcg.d) r.vc, zau C19.base 1 s.ws r.vw, zau C19.base 1 s.ts r.vt]
structure TW (tf t : Tr zal) (r : TR) (s : XSt) : Prop where
 pl : r.pl.length = 4
 os : Objs C19.base tf t (tsW r s)
variable {r : TR} {s : XSt}
theorem TW.cel (h : TW tf t r s) : Cel t r.b none r.cells := h.os.ok (zfp r.b none r.cells) (by simp [tsW])
theorem TW.baseB (h : TW tf t r s) : C19.base <= r.b /\ tf.get r.b = none := h.os.low r.b (by simp [tsW, zfp])
theorem zle {x : zam} {cs : List zab} {Q : zaw} (h : TW tf t r s) (hx : x.fit) (hg : z2i tf) (hrd : RD tf x.d cs) (hp : zbl x <= 200) (b2 : s.names.length + zbl x < 300000) (b3 : s.consts.length + zbl x < 300000)
  (hQ : ∀ tf' t' r' v, TLe tf tf' -> r'.b = r.b -> r'.kp = r.kp -> TW tf' t' r' (s.put (trX za8 zan x s.nt 0).1 []) -> RSl tf' 3 ((trX za8 zan x s.nt 0).2.map XIns.d) v -> Q v t') : Wc C19 F 52 [.ptr r.b 0, .agg cs] t Q := by
 obtain ⟨a, b, d, rfl, ha, hb, hd⟩ := zhe hrd
 refine w52 _ _ _ _ _ _ _ _ _ _ ?_
 simp only [t52, wpT]; rw [zc7, zaa, znv, zaa]; intro n _ _; have hlen : r.cells.length = 11 := by simp [TR.cells, h.pl]
 obtain ⟨t1, g1, g2, g3⟩ := h.cel.store1 (C := C19) h.baseB.1 (j := 10) (v := .nilslice) zza5 rfl rfl rfl (by omega)
 have es : r.cells.set 10 .nilslice = TR.cells ⟨r.b, r.pl, r.vn, r.vc, r.vw, r.vt, .nilslice, r.m1, r.m2⟩ := zoe (k := 6) h.pl
 rw [es] at g2; have o1 : Objs C19.base tf t1 (tsW ⟨r.b, r.pl, r.vn, r.vc, r.vw, r.vt, .nilslice, r.m1, r.m2⟩ s) :=
  Objs.upd (A := []) (o := zfp r.b none r.cells) h.os (fun k k1 _ => g3 k (fun e => k1 (by simp [zfp, e]))) (fun k hk => .inl hk) g2 (by simp [zfp]) (h.os.tle.off h.baseB.2 g3)
 have o2 : Objs C19.base tf t1 (tsL za8 ⟨r.b, r.pl, r.vn, r.vc, r.vw, r.vt, .nilslice, r.m1, r.m2⟩ ⟨s.names, s.consts, s.ws, s.ts, []⟩) := by
  have e : tsW ⟨r.b, r.pl, r.vn, r.vc, r.vw, r.vt, .nilslice, r.m1, r.m2⟩ s = tsW ⟨r.b, r.pl, r.vn, r.vc, r.vw, r.vt, .nilslice, r.m1, r.m2⟩ s ++ [] := by simp
  rw [e] at o1; exact Objs.add (o' := zau C19.base 3 ([] : List D) .nilslice) o1 (fun _ _ => rfl) (fun k hk => by simp [zau, zjy] at hk) (.inl ⟨rfl, rfl⟩) (by simp [zau, zjy]) o1.tle
 rw [g1, zaa, zzgv]; refine z13 x (zex x a b d) t1 tf ⟨r.b, r.pl, r.vn, r.vc, r.vw, r.vt, .nilslice, r.m1, r.m2⟩ ⟨s.names, s.consts, s.ws, s.ts, []⟩ _ hx hg hrd ⟨h.pl, o2⟩ (by show 0 + 4 * zbl x < _; omega) b2 b3 fun tf2 t2 r2 k1 k2 k3 k4 => ?_
 have hb2 : r2.b = r.b := k2
 rw [zaa, znv, zaa, <- hb2, k4.ldK, zaa]; have e3 : tsL za8 r2 (XSt.put ⟨s.names, s.consts, s.ws, s.ts, []⟩ (trX za8 zan x s.nt 0).1 (trX za8 zan x s.nt 0).2) = tsW r2 (s.put (trX za8 zan x s.nt 0).1 []) ++ zau C19.base 3 (((trX za8 zan x s.nt 0).2).map XIns.d) r2.vk :: [] := by
  simp [tsL, tsW, XSt.put]
 have o4 : Objs C19.base tf2 t2 (tsL za8 r2 (XSt.put ⟨s.names, s.consts, s.ws, s.ts, []⟩ (trX za8 zan x s.nt 0).1 (trX za8 zan x s.nt 0).2)) := k4.os
 rw [e3] at o4; obtain ⟨tf3, m1, m2, m3⟩ := Objs.freezeL o4
 rw [ybe] at m2; exact hQ tf3 t2 r2 r2.vk (k1.trans m1) hb2 (k3.trans rfl) ⟨k4.pl, m2⟩ m3
end Go.Proofs
namespace Go.Proofs
open Go Go.Am
variable [zcf]
variable {t tf : Tr zal} {r : TR} {s : XSt}
def zc2 (l : List XIns) : D := .sl 3 (l.map XIns.d)
theorem z1h {n : Nat} {v : zab} {l : List D} (hv : RSl tf 3 l v) (hn : t.get n = none) : ∃ t', za0 C19 32 1 [(0, v)] ⟨n, t⟩ = some (.slice n 0 1 1, ⟨n + 1, t'⟩) /\ zhn t' 1 (.slice n 0 1 1) [[v]] /\ TLe t t' /\ Off n t t' :=
 zhf (C := C19) (T := 32) (el := 37) (sz := 1) (n := 1) (cl := [[v]]) zzf9 rfl zza5 rfl rfl (by decide) (by
  obtain ⟨cl, hh, _⟩ := hv
  rcases hh with ⟨rfl, _⟩ | ⟨_, _, _, rfl, _⟩ <;> rfl) (fun k cs hk => by
  cases k with
  | zero => simp at hk; subst hk; rfl
  | succ k => simp at hk) rfl hn
theorem TW.junk (h : TW tf t r s) {n : Nat} {t' : Tr zal} (hn : t.get n = none) (ho : Off n t t') : TW tf t' r s := ⟨h.pl, h.os.junk hn ho⟩
theorem TW.ldW (h : TW tf t r s) : zap C19 32 ⟨0, t⟩ (.ptr r.b 6) = some r.vw := h.cel.load1 zzf9 rfl (zp8 (k := 2) h.pl)
theorem TW.ldT (h : TW tf t r s) : zap C19 32 ⟨0, t⟩ (.ptr r.b 7) = some r.vt := h.cel.load1 zzf9 rfl (zp8 (k := 3) h.pl)
theorem pushW {l : List XIns} {v x : zab} {n : Nat} (h : TW tf t r s) (hv : RSl tf 3 (l.map XIns.d) v) (hx : zhn t 1 x [[v]]) (hl : s.ws.length < 300000) (hn : t.get n = none) (hnb : C19.base <= n) :
  ∃ v2 k t2, zbn C19 32 32 r.vw x ⟨n, t⟩ = some (v2, ⟨k, t2⟩) /\ ∃ t3, (∀ m, zb3 C19 32 (.ptr r.b 6) v2 ⟨m, t2⟩ = some (zbr, ⟨m, t3⟩)) /\ TW tf t3 ⟨r.b, r.pl, r.vn, r.vc, v2, r.vt, r.vk, r.m1, r.m2⟩ ⟨s.names, s.consts, s.ws ++ [zc2 l], s.ts, s.code⟩ := by
 have ln : Loose C19.base tf t 1 s.ws r.vw := h.os.ok (zau C19.base 1 s.ws r.vw) (by simp [tsW])
 obtain ⟨t2, c1, c2, c3, c4⟩ := zf6 (C := C19) el32 (m := [zc2 l]) ln hx (by
  rw [zbc]; refine ⟨_, _, rfl, ?_, zbv.2 rfl⟩
  unfold zc2; rw [zk9]; exact ⟨v, rfl, hv⟩) (by intro a ha; simp at ha; subst ha; exact hv.one) (by simp) (by simp; omega) hn hnb h.os.tle
 have o3 : Objs C19.base tf t2 ([zfp r.b none r.cells, zfx r.m1 (zay 0 s.names), zfx r.m2 (zay 0 (s.consts.map za8)), zau C19.base 1 (s.names.map D.str) r.vn, zau C19.base 6 (s.consts.map zcg.d) r.vc] ++ zau C19.base 1 (s.ws ++ [zc2 l]) (.slice n 0 (s.ws.length + [zc2 l].length) (s.ws.length + [zc2 l].length)) :: [zau C19.base 1 s.ts r.vt]) := by
  refine Objs.upd (o := zau C19.base 1 s.ws r.vw) h.os (fun k k1 k2 => c4 k ?_ (fun e => k1 (zgu.2 e))) (fun k hk => ?_) c2 (by simp [zau, zjy]) c3
  ·intro e; subst e; exact k2 (by simp [zau, zjy])
  ·have : k = n := by simpa [zau, zjy] using hk
   subst this; exact .inr ⟨hn, hnb⟩
 have hlen : r.cells.length = 11 := by simp [TR.cells, h.pl]
 have cel3 : Cel t2 r.b none r.cells := o3.ok (zfp r.b none r.cells) (by simp)
 obtain ⟨t4, g1, g2, g3⟩ := cel3.store1 (C := C19) h.baseB.1 (j := 6) (v := .slice n 0 (s.ws.length + [zc2 l].length) (s.ws.length + [zc2 l].length)) zzf9 rfl rfl rfl (by omega)
 have es : r.cells.set 6 (.slice n 0 (s.ws.length + [zc2 l].length) (s.ws.length + [zc2 l].length)) = TR.cells ⟨r.b, r.pl, r.vn, r.vc, .slice n 0 (s.ws.length + [zc2 l].length) (s.ws.length + [zc2 l].length), r.vt, r.vk, r.m1, r.m2⟩ := zoe (k := 2) h.pl
 rw [es] at g2; refine ⟨_, _, t2, c1, t4, g1, h.pl, ?_⟩
 exact Objs.upd (A := []) (o := zfp r.b none r.cells) o3 (fun k k1 _ => g3 k (fun e => k1 (by simp [zfp, e]))) (fun k hk => .inl hk) g2 (by simp [zfp]) (c3.off h.baseB.2 g3)
theorem pushT {l : List XIns} {v x : zab} {n : Nat} (h : TW tf t r s) (hv : RSl tf 3 (l.map XIns.d) v) (hx : zhn t 1 x [[v]]) (hl : s.ts.length < 300000) (hn : t.get n = none) (hnb : C19.base <= n) :
  ∃ v2 k t2, zbn C19 32 32 r.vt x ⟨n, t⟩ = some (v2, ⟨k, t2⟩) /\ ∃ t3, (∀ m, zb3 C19 32 (.ptr r.b 7) v2 ⟨m, t2⟩ = some (zbr, ⟨m, t3⟩)) /\ TW tf t3 ⟨r.b, r.pl, r.vn, r.vc, r.vw, v2, r.vk, r.m1, r.m2⟩ ⟨s.names, s.consts, s.ws, s.ts ++ [zc2 l], s.code⟩ := by
 have ln : Loose C19.base tf t 1 s.ts r.vt := h.os.ok (zau C19.base 1 s.ts r.vt) (by simp [tsW])
 obtain ⟨t2, c1, c2, c3, c4⟩ := zf6 (C := C19) el32 (m := [zc2 l]) ln hx (by
  rw [zbc]; refine ⟨_, _, rfl, ?_, zbv.2 rfl⟩
  unfold zc2; rw [zk9]; exact ⟨v, rfl, hv⟩) (by intro a ha; simp at ha; subst ha; exact hv.one) (by simp) (by simp; omega) hn hnb h.os.tle
 have o3 : Objs C19.base tf t2 ([zfp r.b none r.cells, zfx r.m1 (zay 0 s.names), zfx r.m2 (zay 0 (s.consts.map za8)), zau C19.base 1 (s.names.map D.str) r.vn, zau C19.base 6 (s.consts.map zcg.d) r.vc, zau C19.base 1 s.ws r.vw] ++ zau C19.base 1 (s.ts ++ [zc2 l]) (.slice n 0 (s.ts.length + [zc2 l].length) (s.ts.length + [zc2 l].length)) :: []) := by
  refine Objs.upd (o := zau C19.base 1 s.ts r.vt) h.os (fun k k1 k2 => c4 k ?_ (fun e => k1 (zgu.2 e))) (fun k hk => ?_) c2 (by simp [zau, zjy]) c3
  ·intro e; subst e; exact k2 (by simp [zau, zjy])
  ·have : k = n := by simpa [zau, zjy] using hk
   subst this; exact .inr ⟨hn, hnb⟩
 have hlen : r.cells.length = 11 := by simp [TR.cells, h.pl]
 have cel3 : Cel t2 r.b none r.cells := o3.ok (zfp r.b none r.cells) (by simp)
 obtain ⟨t4, g1, g2, g3⟩ := cel3.store1 (C := C19) h.baseB.1 (j := 7) (v := .slice n 0 (s.ts.length + [zc2 l].length) (s.ts.length + [zc2 l].length)) zzf9 rfl rfl rfl (by omega)
 have es : r.cells.set 7 (.slice n 0 (s.ts.length + [zc2 l].length) (s.ts.length + [zc2 l].length)) = TR.cells ⟨r.b, r.pl, r.vn, r.vc, r.vw, .slice n 0 (s.ts.length + [zc2 l].length) (s.ts.length + [zc2 l].length), r.vk, r.m1, r.m2⟩ := zoe (k := 3) h.pl
 rw [es] at g2; refine ⟨_, _, t2, c1, t4, g1, h.pl, ?_⟩
 exact Objs.upd (A := []) (o := zfp r.b none r.cells) o3 (fun k k1 _ => g3 k (fun e => k1 (by simp [zfp, e]))) (fun k hk => .inl hk) g2 (by simp [zfp]) (c3.off h.baseB.2 g3)
def zio : List za4 -> Nat
 | [] => 0
 | c :: l => zbl c.when_ + zbl c.then_ + zio l
def zzf1 : List zab := [.str [], .nilslice, .nilslice, .nilslice, .nilslice, .nilslice, .nilslice, .nilslice]
theorem z90 {cl : List za4} {c : zab} {Q : zaw} (hn : cl.length <= 400) (hfit : ∀ x ∈ cl, x.fit) (hb : ∀ x ∈ cl, zfn x = true) : ∀ (l : List za4) (i : Nat) (t tf : Tr zal) (r : TR) (s : XSt), cl.drop i = l -> TW tf t r s -> z2i tf -> RSl tf 24 (cl.map za4.d) c -> s.names.length + zio l < 200000 -> s.consts.length + zio l < 200000 -> s.ws.length + l.length < 200000 -> s.ts.length + l.length < 200000 →
  (∀ tf' t' r', TLe tf tf' -> r'.b = r.b -> r'.pl = r.pl -> TW tf' t' r' ⟨(trC za8 zan l s.nt).1.names, (trC za8 zan l s.nt).1.consts, s.ws ++ (trC za8 zan l s.nt).2.map (fun p => zc2 p.1), s.ts ++ (trC za8 zan l s.nt).2.map (fun p => zc2 p.2), s.code⟩ -> Q (.tup [.agg (r'.pl ++ [r'.vn, r'.vc, r'.vw, r'.vt]), .int .i64 0]) t') →
  (∃ nm a b d, r.pl = [.str nm, a, b, d] /\ zab.one a = true /\ zab.one b = true /\ zab.one d = true /\ zj1 .nilslice a = true /\ zj1 .nilslice b = true /\ zj1 .nilslice d = true) →
  jp 22 2 [.ptr r.b 0, c, .int .i64 (cl.length : Int), .int .i64 (i : Int), .str [], .nilslice, .nilslice, .nilslice, .nilslice, .nilslice, .nilslice, .nilslice] t Q := by
 intro l; induction l with
 | nil =>
  intro i t tf r s hl h hg hc b1 b2 b3 b4 hQ hpl; have := zmx hl
  refine j22_2 _ _ _ _ _ _ _ _ _ _ _ _ ?_
  simp only [zzgo, wpT, zat]; obtain ⟨nm, a, b, d, epl, o1, o2, o3, f1, f2, f3⟩ := hpl
  have ld : zap C19 34 ⟨0, t⟩ (.ptr r.b 0) = some (.agg (r.pl ++ [r.vn, r.vc, r.vw, r.vt])) := by
   have := h.cel.at.load (C := C19) (j := 0) ty34 rfl rfl (by simp [TR.cells, h.pl])
   rw [yax] at this; rw [this, epl]; unfold TR.cells; rw [epl]; rfl
  have ln : Loose C19.base tf t 1 (s.names.map D.str) r.vn := h.os.ok (zau C19.base 1 (s.names.map D.str) r.vn) (by simp [tsW])
  have lc : Loose C19.base tf t 6 (s.consts.map zcg.d) r.vc := h.os.ok (zau C19.base 6 (s.consts.map zcg.d) r.vc) (by simp [tsW])
  have lw : Loose C19.base tf t 1 s.ws r.vw := h.os.ok (zau C19.base 1 s.ws r.vw) (by simp [tsW])
  have lt : Loose C19.base tf t 1 s.ts r.vt := h.os.ok (zau C19.base 1 s.ts r.vt) (by simp [tsW])
  have r1 := ln.read h.os.tle
  have r2 := lc.read h.os.tle
  have r3 := lw.read h.os.tle
  have r4 := lt.read h.os.tle
  rw [if_neg (by omega), zc7, zaa, zgc, zaa, ld, zaa]
  have hq := hQ tf t r (TLe.refl _) rfl rfl (by
   simp only [trC, List.map_nil, ybe]; exact h)
  rw [epl] at hq ⊢
  have hz : zrc [(.str []), .nilslice, .nilslice, .nilslice, .nilslice, .nilslice, .nilslice, .nilslice] (.agg ([.str nm, a, b, d] ++ [r.vn, r.vc, r.vw, r.vt])) = some (cellsOf [.str nm, a, b, d, r.vn, r.vc, r.vw, r.vt]) := zhq (by
   show (true && (zj1 .nilslice a && (zj1 .nilslice b && (zj1 .nilslice d && (zj1 .nilslice r.vn && (zj1 .nilslice r.vc && (zj1 .nilslice r.vw && (zj1 .nilslice r.vt && true)))))))) = true
   rw [f1, f2, f3, zbi r1, zbi r2, zbi r3, zbi r4]; rfl)
  rw [hz, zaa]; simp only [cellsOf, zil, ze6, yaa, yab]; have hone : zeb zab.one [.str nm, a, b, d, r.vn, r.vc, r.vw, r.vt] = true := by
   rw [zcb]; simp only [ybh, List.all_nil, o1, o2, o3, r1.one, r2.one, r3.one, r4.one]; rfl
  exact zbf hone hq
 | cons x l ih =>
  intro i t tf r s hl h hg hc b1 b2 b3 b4 hQ hpl; obtain ⟨h1, h2, h3⟩ := zk3 hl
  have hx := List.mem_of_getElem? h1
  have hxf := hfit x hx
  have hxb := hb x hx
  unfold zfn at hxb; rw [yac] at hxb; have p1 := zg8 hxb.1
  have p2 := zg8 hxb.2
  unfold zio at b1 b2; rw [yao] at b3 b4; obtain ⟨q, off, u1, u2, u3, w1, w2, w3, g1, g2, g3, g4, g5, g6⟩ := zq0 hc h1
  have g2 : zap C19 52 ⟨0, t⟩ (.ptr q off) = some (.agg (zfu x u1 u2 u3 w1 w2 w3)) := zeg (H := ⟨0, tf⟩) (fun _ _ k => h.os.tle _ _ k) g2
  refine j22_2 _ _ _ _ _ _ _ _ _ _ _ _ ?_
  simp only [zzgo, wpT, zat]; unfold zte at g3; rw [if_pos (by omega), g1, zaa, g2, zaa, g3, zaa]
  unfold zfu at g6; simp only [zfu, cellsOf, zix, zil, zde, ze6, yaa, yab]; refine zbf g6 ?_
  rw [zc7, zaa, zgc, zaa, zzft, zaa, h.ldW, zaa, q52]; have s1 := zdh (key := za8) (valid := zan) x.when_ s.nt 0
  refine zle (x := x.when_) h hxf.2.2.2.2.2.1 hg g4 p1 (by omega) (by omega) fun tf1 t1 r1 v1 k1 k2 k3 k4 k5 => ?_
  have kw : r1.vw = r.vw := congrArg (fun z => z.2.1) k3
  have kt : r1.vt = r.vt := congrArg (fun z => z.2.2) k3
  have kp : r1.pl = r.pl := congrArg (fun z => z.1) k3
  have n1 : (trX za8 zan x.when_ s.nt 0).1.names.length <= s.names.length + zbl x.when_ := s1.2.1
  have n2 : (trX za8 zan x.when_ s.nt 0).1.consts.length <= s.consts.length + zbl x.when_ := s1.2.2
  rw [<- k2, k4.ldW, zaa, kw, if_pos (by rw [<- kw]; exact (k4.os.ok (zau C19.base 1 s.ws r1.vw) (by simp [tsW, XSt.put]) : Loose C19.base tf1 t1 1 s.ws r1.vw).same)]
  intro m1 hm1 hm1b; obtain ⟨t2, a1, a2, a3, a4⟩ := z1h (t := t1) k5 hm1
  have j2 := k4.junk hm1 a4
  rw [a1, zaa, j2.ldW, zaa, kw, if_pos (by rw [<- kw]; exact (k4.os.ok (zau C19.base 1 s.ws r1.vw) (by simp [tsW, XSt.put]) : Loose C19.base tf1 t1 1 s.ws r1.vw).same)]
  intro m2 hm2 hm2b; obtain ⟨vw2, kk, t3, c1, t4, c2, c3⟩ := pushW j2 k5 a2 (by show s.ws.length < _; omega) hm2 hm2b
  rw [kw] at c1; rw [c1, zaa]; simp only [zc7, zaa, zgc, zzft, z9j]; intro m3 _ _; rw [c2, zaa]; simp only [zc7, zaa, zgc, z9j]; have ld7 := c3.ldT
  rw [ld7, zaa, q52]; have s2 := zdh (key := za8) (valid := zan) x.then_ (trX za8 zan x.when_ s.nt 0).1 0
  refine zle (r := ⟨r1.b, r1.pl, r1.vn, r1.vc, vw2, r1.vt, r1.vk, r1.m1, r1.m2⟩) (x := x.then_) c3 hxf.2.2.2.2.2.2 (hg.mono k1) (RD.mono k1 _ _ g5) p2 (by show (trX za8 zan x.when_ s.nt 0).1.names.length + _ < _; omega) (by show (trX za8 zan x.when_ s.nt 0).1.consts.length + _ < _; omega) fun tf5 t5 r5 v5 d1 d2 d3 d4 d5 => ?_
  have dw : r5.vw = vw2 := congrArg (fun z => z.2.1) d3
  have dt : r5.vt = r1.vt := congrArg (fun z => z.2.2) d3
  have dp : r5.pl = r1.pl := congrArg (fun z => z.1) d3
  have d2 : r5.b = r1.b := d2
  have n3 : (trX za8 zan x.then_ (trX za8 zan x.when_ s.nt 0).1 0).1.names.length <= (trX za8 zan x.when_ s.nt 0).1.names.length + zbl x.then_ := s2.2.1
  have n4 : (trX za8 zan x.then_ (trX za8 zan x.when_ s.nt 0).1 0).1.consts.length <= (trX za8 zan x.when_ s.nt 0).1.consts.length + zbl x.then_ := s2.2.2
  have sameT : same 10 r5.vt r5.vt = true := (d4.os.ok (zau C19.base 1 s.ts r5.vt) (by simp [tsW, XSt.put]) : Loose C19.base tf5 t5 1 s.ts r5.vt).same
  rw [<- d2, d4.ldT, zaa, <- dt, if_pos sameT]; intro m5 hm5 hm5b; obtain ⟨t6, e1, e2, e3, e4⟩ := z1h (t := t5) d5 hm5
  have j6 := d4.junk hm5 e4
  rw [e1, zaa, j6.ldT, zaa, if_pos sameT]; intro m6 hm6 hm6b; obtain ⟨vt2, kk2, t7, f1, t8, f2, f3⟩ := pushT j6 d5 e2 (by show s.ts.length < _; omega) hm6 hm6b
  rw [f1, zaa]; simp only [zc7, zaa, zgc, z9j]; intro m7 _ _; rw [f2, zaa, zak (by omega) (by omega), show (i : Int) + 1 = ((i + 1 : Nat) : Int) by omega]
  refine ih (i + 1) t8 tf5 ⟨r5.b, r5.pl, r5.vn, r5.vc, r5.vw, vt2, r5.vk, r5.m1, r5.m2⟩ _ h2 f3 ((hg.mono k1).mono d1) (hc.mono (k1.trans d1)) (by show (trX za8 zan x.then_ (trX za8 zan x.when_ s.nt 0).1 0).1.names.length + _ < _; omega) (by show (trX za8 zan x.then_ (trX za8 zan x.when_ s.nt 0).1 0).1.consts.length + _ < _; omega) (by show (s.ws ++ [_]).length + _ < _; simp; omega) (by show (s.ts ++ [_]).length + _ < _; simp; omega) (fun tf9 t9 r9 z1 z2 z3 z4 => ?_) (by
    obtain ⟨nm, a, b, d, epl, rest⟩ := hpl
    exact ⟨nm, a, b, d, (dp.trans kp).trans epl, rest⟩)
  refine hQ tf9 t9 r9 (k1.trans (d1.trans z1)) (z2.trans (d2.trans k2)) (z3.trans (dp.trans kp)) ?_
  have e : (⟨(trC za8 zan (x :: l) s.nt).1.names, (trC za8 zan (x :: l) s.nt).1.consts, s.ws ++ (trC za8 zan (x :: l) s.nt).2.map (fun p => zc2 p.1), s.ts ++ (trC za8 zan (x :: l) s.nt).2.map (fun p => zc2 p.2), s.code⟩ : XSt) =
    ⟨(trC za8 zan l (trX za8 zan x.then_ (trX za8 zan x.when_ s.nt 0).1 0).1).1.names, (trC za8 zan l (trX za8 zan x.then_ (trX za8 zan x.when_ s.nt 0).1 0).1).1.consts, s.ws ++ [zc2 (trX za8 zan x.when_ s.nt 0).2] ++ (trC za8 zan l (trX za8 zan x.then_ (trX za8 zan x.when_ s.nt 0).1 0).1).2.map (fun p => zc2 p.1), s.ts ++ [zc2 (trX za8 zan x.then_ (trX za8 zan x.when_ s.nt 0).1 0).2] ++ (trC za8 zan l (trX za8 zan x.then_ (trX za8 zan x.when_ s.nt 0).1 0).1).2.map (fun p => zc2 p.2), s.code⟩ := by
   simp [trC]
  rw [e]; have z4 := z4
  simp only [XSt.put, XSt.nt, ybe] at z4; exact z4
end Go.Proofs
