/- divideStep. -/
import Derived.Test.YtfmlbimokklmgaaGreatDoorA15
set_option linter.all false
noncomputable section
set_option maxRecDepth 100000
namespace Go.Proofs
open Go Go.Am
variable [zb1]
variable {t : Tr zav}
def BB : Nat := 4294967296
theorem zky : BB = 4294967296 := rfl
theorem zdt : 0 < BB := by decide
theorem zw8 {T el : Nat} (h : zvq C30 T el 1 false) {b off n cap j : Nat} (hj : j < n) : zai C30 T (.slice b off n cap) (.int .i64 (j : Int)) = some (.ptr b (off + j)) := by
 have := zc4 (b := b) (off := off) (cap := cap) h hj
 simp_all
theorem zo8 {A w Z : List Nat} {j x : Nat} (h : w[j]? = some x) : (A ++ w ++ Z)[A.length + j]? = some x := by
 grind
theorem zr0 {A w Z : List Nat} {j x : Nat} (h : j < w.length) : (A ++ w ++ Z).set (A.length + j) x = A ++ w.set j x ++ Z := by
 rw [ybz, List.set_append_right _ _ (by omega), Nat.add_sub_cancel_left, List.set_append_left _ _ h, ybz]
theorem z03 {A Z lv : List Nat} {v : zab} {b cap d : Nat} {t0 : Tr zav} {Q : zbo} (hv : RSl t0 1 (zbc .u32 lv) v) (hl : lv.length < 900000) (hlv : za2 BB lv) (hbase : C30.base <= b) (hb : t0.get b = none) (hd : 0 < d) (hd2 : d <= BB) (W : List Nat) (hWl : W.length = lv.length) (hWlt : za2 BB W) (last : Nat) (hlast : last < BB) (hcap : lv.length + 1 <= cap)
  (hQ : ∀ t' r up, Off b t t' -> Own t' b .u32 (A ++ (r ++ [(last + up) % BB]) ++ Z) -> r.length = lv.length -> za2 BB r -> up < 2 -> val BB r + BB ^ lv.length * up = val BB W + val BB lv -> Q (.int .u32 ((d - 1 : Nat) : Int)) t') :
  ∀ (k i up : Nat) (t' : Tr zav) (r : List Nat), i + k = lv.length -> TLe t0 t' -> Off b t t' -> Own t' b .u32 (A ++ (r ++ (W ++ [last]).drop i) ++ Z) -> r.length = i -> za2 BB r -> up < 2 -> val BB r + BB ^ i * up = val BB (W.take i) + val BB (lv.take i) →
  jp 178 10 [.slice b A.length (lv.length + 1) cap, .int .i64 lv.length, .int .u64 d, .int .u32 up, v, .int .i64 lv.length, .int .i64 i] t' Q := by
 intro k; induction k with
 | zero =>
  intro i up t' r hi ht hoff ho hr hrl hup hval; have hi' : i = lv.length := by omega
  subst hi'
  have hdrop : (W ++ [last]).drop lv.length = [last] := by simp_all
  rw [hdrop] at ho; refine zzcs ?_
  have g1 := zw8 zec (b := b) (off := A.length) (n := lv.length + 1) (cap := cap) (j := lv.length) (by omega)
  have hget : (r ++ [last])[lv.length]? = some last := by simp_all
  have g2 := ho.load (zo8 (A := A) (Z := Z) hget) zl8 rfl
  obtain ⟨t1, s1, s2, s3⟩ := ho.store (C := C30) hbase (j := A.length + lv.length) (by grind) ((last + up) % BB) zl8 rfl
  rw [zr0 (by grind)] at s2
  have hset : (r ++ [last]).set lv.length ((last + up) % BB) = r ++ [(last + up) % BB] := by simp_all
  rw [hset] at s2; have e1 : zal .u32 ((last : Int) + (up : Int)) = (((last + up) % BB : Nat) : Int) := by rw [zeb]; show _ = (((last + up) % 4294967296 : Nat) : Int); omega
  simp only [uL, uIn, uX, uZ, z1n, wpT, zcz, g1, g2, zaa, zak, e1]; rw [yaa (by omega)]
  intro _ _ _; rw [s1]; simp only [zaa]; rw [yca (by omega), yca (by omega)] at hval
  have e2 : zal .u32 (zal .u64 ((d : Int) - 1)) = ((d - 1 : Nat) : Int) := by
   have : d <= 4294967296 := hd2
   grind [za5, zen]
  rw [e2]; exact hQ t1 r up (hoff.trans s3) s2 hr hrl hup hval
 | succ k ih =>
  intro i up t' r hi ht hoff ho hr hrl hup hval; obtain ⟨x, hx⟩ := getElem?_of_lt (l := lv) (i := i) (by omega)
  obtain ⟨y, hy⟩ := getElem?_of_lt (l := W) (i := i) (by omega)
  have hxlt : x < BB := zb0 hlv hx
  have hylt : y < BB := zb0 hWlt hy
  obtain ⟨c, off, g1, g2⟩ := (hv.mono ht).idx zec hx
  have hy' : (W ++ [last])[i]? = some y := by grind
  have hdrop : (W ++ [last]).drop i = y :: (W ++ [last]).drop (i + 1) := zcw hy'
  have g3 := zw8 zec (b := b) (off := A.length) (n := lv.length + 1) (cap := cap) (j := i) (by omega)
  have hget : (r ++ (W ++ [last]).drop i)[i]? = some y := by simp_all
  have g4 := ho.load (zo8 (A := A) (Z := Z) hget) zl8 rfl
  have hlen : i < (r ++ (W ++ [last]).drop i).length := by simp_all
  obtain ⟨t1, s1, s2, s3⟩ := ho.store (C := C30) hbase (j := A.length + i) (by grind) ((y + x + up) % BB) zl8 rfl
  rw [zr0 hlen] at s2; have hset : (r ++ (W ++ [last]).drop i).set i ((y + x + up) % BB) = (r ++ [(y + x + up) % BB]) ++ (W ++ [last]).drop (i + 1) := by
   simp_all
  rw [hset] at s2; have hadd := zzix (t := t') (x := y) (y := x) (c := up) hylt hxlt hup
  refine zzcs ?_
  simp (disch := omega) only [uL, uIn, uX, uZ, z1n, wpT, zcz, g1, g2, g3, g4, zaa, zak, q186, hadd, zb3, zab.asTup, zad, zbs, yaz, yba, zan]
  rw [yab (by omega)]
  intro _ _ _; have s1' : ∀ n, za0 C30 56 (.ptr b (A.length + i)) (.int .u32 (((y + x + up) % 4294967296 : Nat) : Int)) ⟨n, t'⟩ = some (zbj, ⟨n, t1⟩) := s1
  rw [s1']; simp only [zaa]; refine ih (i + 1) ((y + x + up) / BB) t1 _ (by omega) (ht.off hb s3) (hoff.trans s3) s2 (by simp [hr]) (zek hrl (ycy _ (by decide))) ?_ ?_
  ·have h1 : y < 4294967296 := hylt
   have h2 : x < 4294967296 := hxlt
   show (y + x + up) / 4294967296 < 2
   omega
  ·rw [zdi, hr, zdd hx, zdd hy, zdi, zdi]
   grind [Nat.div_add_mod]
theorem z4b {u low bo : Nat} (hu : u < BB) (hl : low < BB) (hb : bo < 2) : ∃ w b', w < BB /\ b' < 2 /\ u + BB * b' = w + low + bo ∧
  zal .u32 (zal .u64 (zal .u64 ((u : Int) - (low : Int)) - (bo : Int))) = (w : Int) /\ Int.fdiv (zal .u64 (zal .u64 ((u : Int) - (low : Int)) - (bo : Int))) 9223372036854775808 = (b' : Int) := by
 have hu : u < 4294967296 := hu
 have hl : low < 4294967296 := hl
 rcases yau u (low + bo) with g | g
 ·refine ⟨u + BB - low - bo, 1, by omega, by omega, by omega, ?_, ?_⟩
  ·rw [zeb, znc, znc]; show _ = ((u + 4294967296 - low - bo : Nat) : Int); omega
  grind [znc]
 ·refine ⟨u - low - bo, 0, by omega, by omega, by omega, ?_, ?_⟩
  all_goals grind [zeb, znc]
theorem z2l {A Z lu lv : List Nat} {v : zab} {b cap d : Nat} {t0 : Tr zav} {Q : zbo} (hv : RSl t0 1 (zbc .u32 lv) v) (hl : lv.length < 900000) (hlv : za2 BB lv) (hbase : C30.base <= b) (hb : t0.get b = none) (hd : d < BB) (hlul : lu.length = lv.length + 1) (hlu : za2 BB lu) (hcap : lv.length + 1 <= cap)
  (hQ : ∀ t' (W : List Nat) last bo, TLe t0 t' -> Off b t t' -> Own t' b .u32 (A ++ (W ++ [last]) ++ Z) -> W.length = lv.length -> za2 BB W -> last < BB -> bo < 2 -> val BB (W ++ [last]) + d * val BB lv = val BB lu + BB ^ (lv.length + 1) * bo →
   if bo = 0 then Q (.int .u32 (d : Int)) t' else jp 178 10 [.slice b A.length (lv.length + 1) cap, .int .i64 lv.length, .int .u64 d, .int .u32 0, v, .int .i64 lv.length, .int .i64 (0 : Nat)] t' Q) :
  ∀ (k i carry borrow : Nat) (t' : Tr zav) (W : List Nat), i + k = lv.length -> TLe t0 t' -> Off b t t' -> Own t' b .u32 (A ++ (W ++ lu.drop i) ++ Z) -> W.length = i -> za2 BB W -> carry < BB -> borrow < 2 -> val BB W + d * val BB (lv.take i) = val BB (lu.take i) + BB ^ i * (carry + borrow) →
  jp 178 6 [.slice b A.length (lv.length + 1) cap, v, .int .i64 lv.length, .int .u64 d, .int .u64 carry, .int .u64 borrow, v, .int .i64 lv.length, .int .i64 i] t' Q := by
 intro k; induction k with
 | zero =>
  intro i carry borrow t' W hi ht hoff ho hW hWl hc hbo hval; have hi' : i = lv.length := by omega
  subst hi'
  obtain ⟨x, hx⟩ := getElem?_of_lt (l := lu) (i := lv.length) (by omega)
  have hxlt : x < BB := zb0 hlu hx
  have hdrop : lu.drop lv.length = [x] := by rw [zcw hx, List.drop_of_length_le (by omega)]
  rw [hdrop] at ho; obtain ⟨w, bo, hw, hbo', hsum, e1, e2⟩ := z4b hxlt hc hbo
  have g1 := zw8 zec (b := b) (off := A.length) (n := lv.length + 1) (cap := cap) (j := lv.length) (by omega)
  have hget : (W ++ [x])[lv.length]? = some x := by simp_all
  have g2 := ho.load (zo8 (A := A) (Z := Z) hget) zl8 rfl
  obtain ⟨t1, s1, s2, s3⟩ := ho.store (C := C30) hbase (j := A.length + lv.length) (by grind) w zl8 rfl
  rw [zr0 (by grind)] at s2
  have hset : (W ++ [x]).set lv.length w = W ++ [w] := by simp_all
  rw [hset] at s2; have hx32 : x < 4294967296 := hxlt
  have e0 : zal .u64 (x : Int) = (x : Int) := za5 (by omega) (by omega)
  refine zzj8 ?_
  simp only [uI, uL, uIn, uZ, z9l, wpT, zcz, g1, g2, zaa, zak, e0, e1, e2, zg9]; rw [yaa (by omega)]
  intro _ _ _; rw [s1]; simp only [zaa]; have hfin := hQ t1 W w bo (ht.off hb s3) (hoff.trans s3) s2 hW hWl hw hbo' (by
   grind [zdi, val, zd5])
  by_cases hz : bo = 0
  ·rw [yab (by omega)]
   rw [yab hz] at hfin; have hd32 : d < 4294967296 := hd
   grind [zen]
  ·rw [yaa (by omega)]
   rw [yaa hz] at hfin; simp only [(hv.mono (ht.off hb s3)).len, zaa, zak, zbl]
   exact hfin
 | succ k ih =>
  intro i carry borrow t' W hi ht hoff ho hW hWl hc hbo hval; obtain ⟨x, hx⟩ := getElem?_of_lt (l := lu) (i := i) (by omega)
  obtain ⟨y, hy⟩ := getElem?_of_lt (l := lv) (i := i) (by omega)
  have hxlt : x < BB := zb0 hlu hx
  have hylt : y < BB := zb0 hlv hy
  have hd32 : d < 4294967296 := hd
  have hx32 : x < 4294967296 := hxlt
  have hy32 : y < 4294967296 := hylt
  have hc32 : carry < 4294967296 := hc
  have hdrop : lu.drop i = x :: lu.drop (i + 1) := zcw hx
  obtain ⟨c, off, g1, g2⟩ := (hv.mono ht).idx zec hy
  have g3 := zw8 zec (b := b) (off := A.length) (n := lv.length + 1) (cap := cap) (j := i) (by omega)
  have hget : (W ++ lu.drop i)[i]? = some x := by simp_all
  have g4 := ho.load (zo8 (A := A) (Z := Z) hget) zl8 rfl
  have hprod : d * y <= 4294967295 * 4294967295 := ydb (by omega) (by omega)
  obtain ⟨P, hP⟩ : ∃ P, P = d * y + carry := ⟨_, rfl⟩
  have hPlt : P < 18446744073709551616 := by omega
  have hPhi : P / 4294967296 < 4294967296 := by omega
  obtain ⟨w, bo, hw, hbo', hsum, e1, e2⟩ := z4b (u := x) (low := P % 4294967296) (bo := borrow) hxlt (ycy _ (by decide)) hbo
  obtain ⟨t1, s1, s2, s3⟩ := ho.store (C := C30) hbase (j := A.length + i) (by simp_all) w zl8 rfl
  rw [zr0 (by simp_all)] at s2
  have hset : (W ++ lu.drop i).set i w = (W ++ [w]) ++ lu.drop (i + 1) := by simp_all
  rw [hset] at s2; have e0 : zal .u64 (x : Int) = (x : Int) := za5 (by omega) (by omega)
  have e0' : zal .u64 (y : Int) = (y : Int) := za5 (by omega) (by omega)
  have e3 : (d : Int) * (y : Int) = ((d * y : Nat) : Int) := (Int.natCast_mul d y).symm
  have e4 : zal .u64 ((d * y : Nat) : Int) = ((d * y : Nat) : Int) := by
   grind [za5]
  have e5 : zal .u64 (((d * y : Nat) : Int) + (carry : Int)) = (P : Int) := by
   rw [hP, <- Int.natCast_add]; grind [za5]
  have e6 : zal .u64 (zal .u32 (P : Int)) = ((P % 4294967296 : Nat) : Int) := by
   grind [zeb, za5]
  have e7 : Int.fdiv (P : Int) 4294967296 = ((P / 4294967296 : Nat) : Int) := zi1 P 4294967296
  refine zzj8 ?_
  simp only [uI, uL, uIn, uZ, z9l, wpT, zcz, g1, g2, g3, g4, zaa, zak, e0, e0', e3, e4, e5, e6, e7, e1, e2]; rw [yab (by omega)]
  intro _ _ _; rw [s1]; simp (disch := omega) only [zaa, zan]
  refine ih (i + 1) (P / 4294967296) bo t1 _ (by omega) (ht.off hb s3) (hoff.trans s3) s2 (by simp [hW]) (zek hWl hw) hPhi hbo' ?_
  rw [zdi, hW, zdd hx, zdd hy, zdi, zdi]; have l1 : (lu.take i).length = i := by simp; omega
  have l2 : (lv.take i).length = i := by simp; omega
  grind [Nat.div_add_mod, BB]
attribute [irreducible] BB
end Go.Proofs
namespace Go.Proofs
open Go Go.Am
variable [zb1]
variable {t : Tr zav}
theorem or32 {x y : Nat} (hx : x < 4294967296) (hy : y < 4294967296) : zfr Nat.lor .u64 ((x * 4294967296 : Nat) : Int) (y : Int) = some (.int .u64 ((x * 4294967296 + y : Nat) : Int)) := by
 have h := zrn (a := x) (b := y) (n := 32) hy
 have e : (2 : Nat) ^ 32 = 4294967296 := by decide
 rw [e] at h; rw [zef (k := .u64) (show x * 4294967296 < kHi .u64 by show _ < 18446744073709551616; omega) (show y < kHi .u64 by show _ < 18446744073709551616; omega), h]
theorem z7b {lu lv : List Nat} {u v : zab} {Q : zbo} {m head top u2 v2 U V ur vr : Nat} (hu : RSl t 1 (zbc .u32 lu) u) (hv : RSl t 1 (zbc .u32 lv) v) (hl : m < 900000) (hu2 : lu[m]? = some u2) (hv2 : lv[m]? = some v2) (hu2lt : u2 < BB) (hv2lt : v2 < BB) (htop : 0 < top) (htoplt : top < BB)
  (hU : U = (head * BB + u2) * BB ^ m + ur) (hur : ur < BB ^ m) (hV : V = (top * BB + v2) * BB ^ m + vr) (hvr : vr < BB ^ m) (hq : U / V < BB) (hhead : head <= top * BB + (BB - 1))
  (hexit : ∀ d, U / V <= d -> d <= U / V + 1 -> d < BB -> jp 178 19 [u, v, .int .i64 (m + 2 : Nat), .int .u64 d] t Q) :
  ∀ (d rest : Nat), d * top + rest = head -> U / V <= d -> d <= BB + 1 -> rest < BB -> jp 178 2 [u, v, .int .i64 (m + 2 : Nat), .int .u64 top, .int .u64 d, .int .u64 rest] t Q := by
 intro d; induction d with
 | zero =>
  intro rest hsum hge _ hrest; have hBB := zky
  have hr32 : rest < 4294967296 := by omega
  obtain ⟨b, off, g1, g2⟩ := hv.idx zec hv2
  obtain ⟨c, off', g3, g4⟩ := hu.idx zec hu2
  have hu32 : u2 < 4294967296 := by omega
  have hv32 : v2 < 4294967296 := by omega
  obtain ⟨D, hD⟩ : ∃ D : Int, ((0 : Nat) : Int) = D := ⟨_, rfl⟩
  rw [hD]; refine zzj9 ?_
  unfold z9m uQ11 uL uE uZ uW; generalize hC : (4294967296 : Int) = C
  generalize hG : zfr Nat.lor .u64 (zal .u64 ((rest : Int) * C)) = G
  have e4 : D * (v2 : Int) = 0 := by grind
  have e1 : ((m + 2 : Nat) : Int) - 2 = (m : Int) := by omega
  have e2 : (rest : Int) * C = ((rest * 4294967296 : Nat) : Int) := by simp_all
  have e3 : G (u2 : Int) = some (.int .u64 ((rest * 4294967296 + u2 : Nat) : Int)) := by rw [<- hG, e2, za5 (by omega) (by omega)]; grind [or32]
  simp only [wpT, zew]; rw [yaa (by omega)]
  simp (disch := omega) only [e1, zan, g1, zaa]
  rw [g2]; simp only [zaa, zak, g3]; rw [g4, zaa, zak, zaa, za5 (n := (u2 : Int)) (by omega) (by omega), e3, zaa, zak, zaa, za5 (n := (v2 : Int)) (by omega) (by omega), e4, za5 (n := 0) (by decide) (by decide)]
  grind [zcz]
 | succ d ih =>
  intro rest hsum hge hle hrest; have hBB := zky
  have hr32 : rest < 4294967296 := by omega
  have ht32 : top < 4294967296 := by omega
  have hle32 : d + 1 <= 4294967296 + 1 := by omega
  have hsum' : d * top + (rest + top) = head := by grind
  obtain ⟨D, hD⟩ : ∃ D : Int, ((d + 1 : Nat) : Int) = D := ⟨_, rfl⟩
  rw [hD]; have e1 : D - 1 = (d : Int) := by omega
  have e0 : (rest : Int) + (top : Int) = ((rest + top : Nat) : Int) := by omega
  have less : U / V <= d -> (if (4294967296 : Int) <= ((rest + top : Nat) : Int) then jp 178 19 [u, v, .int .i64 (m + 2 : Nat), .int .u64 d] t Q else jp 178 2 [u, v, .int .i64 (m + 2 : Nat), .int .u64 top, .int .u64 d, .int .u64 ((rest + top : Nat) : Int)] t Q) := by
   intro hge'; split
   ·rename_i hb
    have hb' : BB <= rest + top := by omega
    have hdlt : d < BB := by
     grind
    refine hexit d hge' ?_ hdlt
    refine kn_le zdt hU hV hvr htop (Nat.le_of_lt hdlt) ?_
    have h1 : d * v2 <= BB * BB := ydb (Nat.le_of_lt hdlt) (Nat.le_of_lt hv2lt)
    have h2 : BB * BB <= (rest + top) * BB := ybi _ hb'
    have h3 : head * BB = d * top * BB + (rest + top) * BB := by rw [<- hsum', ybo]
    grind
   ·rename_i hb
    exact ih (rest + top) hsum' hge' (by omega) (by omega)
  refine zzj9 ?_
  unfold z9m uQ11 uL uE uZ uW; generalize hC : (4294967296 : Int) = C
  generalize hG : zfr Nat.lor .u64 (zal .u64 ((rest : Int) * C)) = G
  by_cases hbig : 4294967296 <= d + 1
  ·simp (disch := omega) only [wpT, zew, e0, e1, za5]
   rw [yab (by omega)]
   grind
  ·obtain ⟨b, off, g1, g2⟩ := hv.idx zec hv2
   obtain ⟨c, off', g3, g4⟩ := hu.idx zec hu2
   have hu32 : u2 < 4294967296 := by omega
   have hv32 : v2 < 4294967296 := by omega
   have e5 : ((m + 2 : Nat) : Int) - 2 = (m : Int) := by omega
   have e2 : (rest : Int) * C = ((rest * 4294967296 : Nat) : Int) := by simp_all
   have e6 : zal .u64 (D * (v2 : Int)) = (((d + 1) * v2 : Nat) : Int) := by
    rw [<- hD, <- Int.natCast_mul]; have : (d + 1) * v2 <= 4294967295 * 4294967295 := ydb (by omega) (by omega)
    grind [za5]
   have e3 : G (u2 : Int) = some (.int .u64 ((rest * 4294967296 + u2 : Nat) : Int)) := by rw [<- hG, e2, za5 (by omega) (by omega)]; grind [or32]
   simp only [wpT, zew]; rw [yaa (by omega)]
   simp (disch := omega) only [e5, zan, g1, zaa]
   rw [g2]; simp only [zaa, zak, g3]; rw [g4, zaa, zak, zaa, za5 (n := (u2 : Int)) (by omega) (by omega), e3, zaa, zak, zaa, za5 (n := (v2 : Int)) (by omega) (by omega), e6]
   have e7 : zal .u64 ((rest : Int) + (top : Int)) = ((rest + top : Nat) : Int) := by rw [e0]; exact za5 (by omega) (by omega)
   have e8 : zal .u64 (D - 1) = (d : Int) := by rw [e1]; grind [za5]
   rw [e7, e8]; have key : (d + 1) * (top * BB + v2) = (d + 1) * top * BB + (d + 1) * v2 := by rw [ybm, <- ybj]
   have key2 : head * BB = (d + 1) * top * BB + rest * BB := by rw [<- hsum, ybo]
   by_cases htest : rest * 4294967296 + u2 < (d + 1) * v2
   ·rw [yab (zcz.2 (by omega))]
    subst hC; refine less (Nat.lt_succ_iff.1 (kn_gt hU hur hV ?_))
    grind
   ·rw [yaa (fun h => absurd (zcz.1 h) (by omega))]
    rw [<- hD]; refine hexit (d + 1) hge (kn_le zdt hU hV hvr htop (by omega) ?_) (by omega)
    grind
end Go.Proofs
namespace Go.Proofs
open Go Go.Am
variable [zb1]
variable {t tf : Tr zav}
theorem zzgk {n : Nat} {y : zav} (hn : t.get n = none) (h : TLe tf t) : TLe (tf.set n y) (t.set n y) := by
 intro c u hc; rw [Tr.get_set] at hc ⊢
 split at hc
 ·simp_all
 ·rename_i e; rw [yaa e]; exact h _ _ hc
theorem zwv (h : TLe tf t) {n : Nat} (hn : t.get n = none) : tf.get n = none := by
 cases hx : tf.get n with
 | none => rfl
 | some y => rw [h _ _ hx] at hn; cases hn
structure zzfa (S : Tr zav -> Tr zav -> Prop) : Prop where
 le : ∀ {tf t : Tr zav}, S tf t -> TLe tf t
 both : ∀ {tf t : Tr zav} {n : Nat}, S tf t -> t.get n = none -> ∀ y, S (tf.set n y) (t.set n y)
 out : ∀ {tf t : Tr zav} {n : Nat} {y : zav}, tf.get n = none -> S (tf.set n y) t -> S tf (t.del n)
theorem z6o {f i : Nat} {v8 v4 : zab} {K R : T} {ps : List Nat} {Q : zbo} {S : Nat -> Tr zav -> Tr zav -> Prop} (hS : ∀ k, zzfa (S k)) (hp : RSl tf 1 (zbc .u32 ps) v4) (hl : ps.length < 30000) (h : S ps.length tf t)
  (body : ∀ (k x : Nat) (tf t : Tr zav) (Q1 : zbo), ps[k]? = some x -> S (k + 1) tf t -> (∀ t', S k tf t' -> Q1 (.bool true) t') -> Jq C30 F f i [v8, .int .u32 (x : Int)] t Q1)
  (fin : ∀ tf' t', TLe tf tf' -> S 0 tf' t' -> wpT C30.base (Wq C30 F zct) (Jq C30 F f) K t' Q) :
  wpT C30.base (Wq C30 F zct) (Jq C30 F f) (.call 183 [v4] fun a0 => .range (npC C30) a0 i 1 [v8] K R) t Q := by
 simp only [wpT]; rw [q183]; refine w183 ?_
 simp only [t183, wpT]; intro bb hbb hbase; have hc4 : v4.cells = [v4] := by
  obtain ⟨cl, h1, _⟩ := hp
  rcases h1 with ⟨rfl, _⟩ | ⟨_, _, _, rfl, _⟩ <;> rfl
 have hone : zx9 v4 ⟨bb, t⟩ = some (.ptr bb 0, ⟨bb + 1, t.set bb (.cells (Tr.ofList [v4]) 1 none)⟩) := by
  unfold zx9; rw [hc4]; rfl
 rw [hone, zaa]; simp only []; have h1 := (hS _).both h hbb (.cells (Tr.ofList [v4]) 1 none)
 have hfb := zwv ((hS _).le h) hbb
 have htf1 : TLe tf (tf.set bb (.cells (Tr.ofList [v4]) 1 none)) := (zff hfb _).1
 generalize htf : tf.set bb (.cells (Tr.ofList [v4]) 1 none) = tf1 at h1 htf1
 have hg1 : tf1.get bb = some (.cells (Tr.ofList [v4]) 1 none) := by rw [<- htf, Tr.get_set, yab rfl]
 generalize t.set bb (.cells (Tr.ofList [v4]) 1 none) = t1 at h1
 refine ⟨Nat.le_add_right _ _, fun l r hl0 hlb hr1 hr2 hy => ?_⟩
 have hra : zgv (npC C30) (.func (.func 190) [] [.ptr bb 0]) l = some (190, [.func (.yld l) [] [], .ptr bb 0]) := by
  unfold zgv; simp only [zab.asFunc, zad]; have : npC C30 190 = true := by kernel_rfl
  rw [this]; rfl
 rw [hra, zaa]; have h2 := (hS _).both h1 hl0 (.loop r)
 have hfl := zwv ((hS _).le h1) hl0
 have hlr : zlf true r = r := by
  obtain ⟨a, b, c, d, e, f, g, h, i⟩ := r
  have hr1 : a = .ready := hr1
  have hr2 : b = none := hr2
  subst hr1; subst hr2; rfl
 have hle2 : TLe tf1 (tf1.set l (.loop r)) := (zff hfl _).1
 rw [show Wq C30 F zct 190 = Wc C30 F 190 by funext a m R; rw [q190]]
 refine zznw (l := ps) (v := v4) (I := fun k t' => S k (tf1.set l (.loop r)) t') (by omega) ?_ ?_ ?_ h2
 ·intro k t' hI
  have hle := (hS _).le hI
  have hg : t'.get bb = some (.cells (Tr.ofList [v4]) 1 none) := hle _ _ (hle2 _ _ hg1)
  refine ⟨?_, hp.mono (htf1.trans (hle2.trans hle))⟩
  exact (Cel.load1 (cs := [v4]) (lo := none) ⟨Tr.ofList [v4], hg, fun j a hj => by grind [Tr.get_ofList]⟩ zjh rfl (j := 0) rfl)
 ·intro k x t' hx hI R hR
  show zf8 (some (yo + l, [zab.int .u32 (x : Int)])) _
  rw [zaa]; refine hy [.int .u32 (x : Int)] t' R rfl ((hS _).le hI _ _ (by rw [Tr.get_set, yab rfl])) ?_
  refine body k x tf1 _ _ hx ((hS _).out hfl hI) fun t2 h3 hn2 => ⟨true, rfl, ?_⟩
  rw [hlr]; exact hR _ ((hS _).both h3 hn2 (.loop r))
 ·intro t' hI
  exact .inl ⟨(hS _).le hI _ _ (by rw [Tr.get_set, yab rfl]), fin tf1 _ htf1 ((hS _).out hfl hI)⟩
def z8l (bx : Nat) (v : zab) (tf t : Tr zav) : Prop := C30.base <= bx /\ tf.get bx = none /\ TLe tf t /\ Cel t bx none [v]
theorem z8l.framed {bx : Nat} {v : zab} : zzfa (z8l bx v) where
 le := fun h => h.2.2.1
 both := fun {tf t n} h hn y => by
  obtain ⟨h1, h2, h3, h4⟩ := h
  have hbx : bx ≠ n := by intro e; obtain ⟨c, h, _⟩ := h4; simp_all
  exact ⟨h1, by grind [Tr.get_set], zzgk hn h3, h4.off (by rw [Tr.get_set, yaa hbx])⟩
 out := fun {tf t n y} hn h => by
  obtain ⟨h1, h2, h3, h4⟩ := h
  have hbx : bx ≠ n := by grind [Tr.get_set]
  have hle : TLe tf (tf.set n y) := (zff hn y).1
  rw [Tr.get_set, yaa hbx] at h2; refine ⟨h1, h2, fun c u hc => ?_, h4.off (by rw [Tr.get_del, yaa hbx])⟩
  have : c ≠ n := fun e => by simp_all
  rw [Tr.get_del, yaa this]; exact h3 _ _ (hle _ _ hc)
theorem zzb0 {bx x y : Nat} {Q1 : zbo} (h : z8l bx (.int .u64 (y : Int)) tf t) (hy : y < 4294967296) (hx : x < 4294967296) (hQ : ∀ t', z8l bx (.int .u64 ((y * 4294967296 + x : Nat) : Int)) tf t' -> Q1 (.bool true) t') : jp 172 2 [.ptr bx 0, .int .u32 (x : Int)] t Q1 := by
 obtain ⟨i1, i2, i3, i4⟩ := h
 have e5 : (y : Int) * 4294967296 = ((y * 4294967296 : Nat) : Int) := by omega
 have e6 : zfr Nat.lor .u64 (zal .u64 ((y : Int) * 4294967296)) (zal .u64 (x : Int)) = some (.int .u64 ((y * 4294967296 + x : Nat) : Int)) := by
  rw [e5, za5 (by omega) (by omega), za5 (by omega) (by omega), or32 hy hx]
 generalize y * 4294967296 + x = z at e6 hQ
 refine j172_2 ?_
 simp only [uE, zzjh, wpT]; rw [i4.load1 zmv rfl (j := 0) rfl, zaa, zak, zaa, e6, zaa, zak, zaa]
 intro b3 _ _; obtain ⟨t3, k1, k2, k3⟩ := i4.store1 (v := .int .u64 (z : Int)) i1 zmv rfl rfl rfl (j := 0) (by simp)
 rw [k1, zaa]; exact hQ _ ⟨i1, i2, i3.off i2 k3, k2⟩
theorem z62 {l : List Nat} {k x : Nat} (hl : l.length <= 2) (hlt : za2 4294967296 l) (hx : l[k]? = some x) : x < 4294967296 /\ val 4294967296 (l.drop (k + 1)) < 4294967296 /\ val 4294967296 (l.drop k) = val 4294967296 (l.drop (k + 1)) * 4294967296 + x := by
 have hk : k < l.length := (ybc.1 hx).1
 have hdrop : l.drop k = x :: l.drop (k + 1) := by
  grind [List.drop_eq_getElem_cons]
 refine ⟨hlt x (ycv hx), ?_, ?_⟩
 ·have h1 := zpn hlt (k + 1)
  have h2 : (l.drop (k + 1)).length <= 1 := by grind
  generalize l.drop (k + 1) = m at h1 h2 ⊢
  match m, h1, h2 with
  | [], _, _ => exact Nat.zero_lt_succ _
  | [a], h1, _ => rw [val, val, yat, yct]; exact h1 a (.head _)
 grind [val]
theorem zzmq {l : List Nat} {v : zab} (hv : RSl t 1 (zbc .u32 l) v) (hl : l.length <= 2) (hlt : za2 4294967296 l) : pvC C30 F 172 [v] t = some (.int .u64 ((val 4294967296 l : Nat) : Int)) := by
 refine zzh (w172 ?_)
 have hlen0 : l.length < 30000 := by omega
 have hst : ∀ k x, l[k]? = some x -> _ := fun k x => z62 (k := k) (x := x) hl hlt
 have h0 : val 4294967296 (l.drop l.length) = 0 := by rw [List.drop_length, val]
 generalize hg : (fun k => val 4294967296 (l.drop k)) = g
 have hst' : ∀ k x, l[k]? = some x -> x < 4294967296 /\ g (k + 1) < 4294967296 /\ g k = g (k + 1) * 4294967296 + x := fun k x hx => by grind
 have h0' : g l.length = 0 := by grind
 have hend : val 4294967296 l = g 0 := by grind
 rw [hend]; clear hg hst h0 hend
 unfold t172 uE; show ∀ b, t.get b = none -> C30.base <= b -> zf8 (ze9 C30 207 ⟨b, t⟩) _
 intro bx hbx hbase; obtain ⟨t1, e1, e2, e3, e4⟩ := zeh (C := C30) zmv hbx
 rw [e1, zaa]; show ∀ b, t1.get b = none -> C30.base <= b -> zf8 (za0 C30 207 (.ptr bx 0) (.int .u64 0) ⟨b, t1⟩) _
 intro b2 _ _; obtain ⟨t2, g1, g2, g3⟩ := e2.store1 (v := .int .u64 0) hbase zmv rfl rfl rfl (j := 0) (by simp)
 rw [g1, zaa]; have hS0 : z8l bx (.int .u64 ((g l.length : Nat) : Int)) t t2 := by
  rw [h0']; exact ⟨hbase, hbx, (TLe.refl t).off hbx e4 |>.off hbx g3, g2⟩
 refine z6o (S := fun k tf t => z8l bx (.int .u64 ((g k : Nat) : Int)) tf t) (fun k => z8l.framed) hv hlen0 hS0 ?_ ?_
 ·grind [zzb0]
 ·intro tf' t' hle hI
  obtain ⟨i1, i2, i3, i4⟩ := hI
  simp only [wpT]; rw [i4.load1 zmv rfl (j := 0) rfl, zaa]
  simp only [zak, zaa]; exact ⟨trivial, hle.trans i3⟩
end Go.Proofs
namespace Go.Proofs
open Go Go.Am
variable [zb1]
variable {t : Tr zav}
theorem zzh6 {A lu lv Z : List Nat} {v : zab} {b cap m : Nat} {t0 t' : Tr zav} {Q : zbo} (hv : RSl t0 1 (zbc .u32 lv) v) (hl : lv.length = m + 2) (hm : m < 800000) (hlv : za2 BB lv) (hbase : C30.base <= b) (hb : t0.get b = none) (hlul : lu.length = m + 3) (hlu : za2 BB lu) (hcap : m + 3 <= cap)
  (htop : ∀ top, lv[m + 1]? = some top -> 2147483648 <= top) (hlt : val BB lu < BB * val BB lv) (ht : TLe t0 t') (hoff : Off b t t') (ho : Own t' b .u32 (A ++ lu ++ Z))
  (hQ : ∀ t2 r, TLe t0 t2 -> Off b t t2 -> Own t2 b .u32 (A ++ (r ++ [0]) ++ Z) -> r.length = m + 2 -> za2 BB r -> val BB r = val BB lu % val BB lv -> val BB lu / val BB lv < BB -> Q (.int .u32 ((val BB lu / val BB lv : Nat) : Int)) t2) :
  Wc C30 F 178 [.slice b A.length (m + 3) cap, v] t' Q := by
 obtain ⟨top, h1⟩ := getElem?_of_lt (l := lv) (i := m + 1) (by omega)
 obtain ⟨v2, h2⟩ := getElem?_of_lt (l := lv) (i := m) (by omega)
 obtain ⟨un, h3⟩ := getElem?_of_lt (l := lu) (i := m + 2) (by omega)
 obtain ⟨u1, h4⟩ := getElem?_of_lt (l := lu) (i := m + 1) (by omega)
 obtain ⟨u2, h5⟩ := getElem?_of_lt (l := lu) (i := m) (by omega)
 have b1 : top < BB := zb0 hlv h1
 have b2 : v2 < BB := zb0 hlv h2
 have b3 : un < BB := zb0 hlu h3
 have b4 : u1 < BB := zb0 hlu h4
 have b5 : u2 < BB := zb0 hlu h5
 have hBB := zky
 have c1 : top < 4294967296 := by omega
 have c3 : un < 4294967296 := by omega
 have c4 : u1 < 4294967296 := by omega
 have htop2 := htop top h1
 obtain ⟨hV, hvr⟩ := top2 (B := BB) zdt hlv hl h1 h2
 obtain ⟨hU, hur⟩ := top3 (B := BB) zdt hlu hlul h3 h4 h5
 have hVpos : 0 < val BB lv := by
  have : 0 < (top * BB + v2) * BB ^ m := Nat.mul_pos (by have : 0 < top * BB := Nat.mul_pos (by omega) zdt; omega) (Nat.pow_pos zdt)
  omega
 have hq : val BB lu / val BB lv < BB := ycu (by rw [ybh]; exact hlt)
 have hread : RSl t' 1 (zbc .u32 lu) (.slice b A.length (m + 3) cap) := by
  have := ho.slice (off := A.length) (n := m + 3) (cap := cap) (by simp; omega) hcap
  rw [ybz, List.drop_left, List.take_left' hlul] at this; exact this
 have hv' := hv.mono ht
 obtain ⟨d1, o1, g1, g1'⟩ := hread.idx zec h3
 obtain ⟨d2, o2, g2, g2'⟩ := hread.idx zec h4
 obtain ⟨d3, o3, g3, g3'⟩ := hv'.idx zec h1
 have hun : un <= top := by
  rcases yau top un with g | g
  ·exfalso
   have e1 : (un * BB) * BB * BB ^ m <= val BB lu := by rw [hU, ybo, ybo, ybo]; omega
   have e2 : val BB lv < (top + 1) * BB * BB ^ m := by
    have h : top * BB + v2 + 1 <= (top + 1) * BB := by rw [ybo]; omega
    have := ybi (BB ^ m) h
    rw [ybo (top * BB + v2) 1, Nat.one_mul] at this
    omega
   have e3 : BB * val BB lv < BB * ((top + 1) * BB * BB ^ m) := Nat.mul_lt_mul_of_pos_left e2 zdt
   have e4 : BB * ((top + 1) * BB * BB ^ m) <= un * BB * BB * BB ^ m := by
    have : (top + 1) * BB * BB ^ m <= un * BB * BB ^ m := ybi _ (ybi _ g)
    have := ybv BB this
    calc BB * ((top + 1) * BB * BB ^ m) <= BB * (un * BB * BB ^ m) := this
     _ = un * BB * BB * BB ^ m := by rw [<- ybj, ybh BB (un * BB)]
   omega
  ·exact g
 have hh : un * BB + u1 <= top * BB + (BB - 1) := by
  have := ybi BB hun
  omega
 have hge : val BB lu / val BB lv <= (un * BB + u1) / top := kn_ge hU hur b5 hV (by omega)
 have hdle : (un * BB + u1) / top <= BB + 1 := by
  have : un * BB + u1 < (BB + 2) * top := by
   rw [ybo, ybh BB top]; generalize top * BB = P at hh ⊢
   generalize un * BB = R at hh ⊢
   omega
  have := ycu (show un * BB + u1 < top * (BB + 2) by rw [ybh top]; exact this)
  omega
 have hrest : (un * BB + u1) % top < BB := Nat.lt_trans (ycy _ (by omega)) b1
 refine w178 ?_
 have e1 : ((lv.length : Nat) : Int) = ((m + 2 : Nat) : Int) := by rw [hl]
 have e2 : ((m + 2 : Nat) : Int) - 1 = ((m + 1 : Nat) : Int) := by omega
 have e3 : (un : Int) * 4294967296 = ((un * 4294967296 : Nat) : Int) := by omega
 simp (disch := omega) only [uI, uL, uE, uZ, uW, t178, wpT, hv'.len, zaa, zak, zbl, e1, g1, g1', e2, zan, g2, g2', g3, g3', za5, e3]
 have e4 : zfr Nat.lor .u64 ((un * 4294967296 : Nat) : Int) (u1 : Int) = some (.int .u64 ((un * 4294967296 + u1 : Nat) : Int)) := by
  rw [zef (k := .u64) (show un * 4294967296 < kHi .u64 by show _ < 18446744073709551616; omega) (show u1 < kHi .u64 by show _ < 18446744073709551616; omega)]
  have := zrn (a := un) (b := u1) (n := 32) c4
  rw [show un * 4294967296 = un * 2 ^ 32 by rfl, this]
 rw [e4]; simp only [zaa, zak]; have e5 : zzhq .u64 ((un * 4294967296 + u1 : Nat) : Int) (top : Int) = some (.int .u64 (((un * 4294967296 + u1) / top : Nat) : Int)) := zw9 (by omega) (by
  have h : (un * 4294967296 + u1) / top <= 4294967296 + 1 := by rw [hBB] at hdle; exact hdle
  generalize (un * 4294967296 + u1) / top = z at h ⊢
  exact za5 (by omega) (by omega))
 rw [e5]; simp only [zaa, zak]; rw [zn5 (by omega)]
 simp only [zaa, zak]; refine z7b hread hv' (by omega) h5 h2 b5 b2 (by omega) b1 hU hur hV hvr hq hh (fun d q1 q2 q3 => ?_) _ _ ?_ (by rw [hBB] at hge ⊢; exact hge) (by rw [hBB] at hdle ⊢; exact hdle) (by rw [hBB] at hrest ⊢; exact hrest)
 ·refine zzm2 ?_
  simp only [uI, uZ, z9n, wpT, hv'.len, zaa, zak, zbl, e1]; have hms := z2l (t := t) (A := A) (Z := Z) (lu := lu) (lv := lv) (v := v) (b := b) (cap := cap) (d := d) (t0 := t0) (Q := Q) hv (by omega) hlv hbase hb q3 (by omega) hlu (by omega) ?_ lv.length 0 0 0 t' [] (by omega) ht hoff (by simpa using ho) rfl (fun x hx => by cases hx) (by first | omega | decide) (by first | omega | decide) (by simp [val])
  ·rw [hl] at hms
   exact hms
  ·intro t2 W last bo k1 k2 k3 k4 k5 k6 k7 k8
   have hWall : val BB (W ++ [last]) < BB ^ (lv.length + 1) := by
    have := zg7 (B := BB) zdt (zek k5 k6)
    simp only [ybg, ybn, ybx, k4] at this; exact this
   have hVlt : val BB lv < BB ^ lv.length := zg7 zdt hlv
   have hdm := ych (val BB lu) (val BB lv)
   have hmod : val BB lu % val BB lv < val BB lv := ycy _ hVpos
   have hWs : val BB (W ++ [last]) = val BB W + BB ^ lv.length * last := by rw [zdi, k4]
   split
   ·rename_i hz
    subst hz; rw [yat, yct] at k8; have hd : d = val BB lu / val BB lv := by
     refine Nat.le_antisymm ?_ q1
     rw [Nat.le_div_iff_mul_le hVpos]; omega
    have hr : val BB (W ++ [last]) = val BB lu % val BB lv := by
     rw [hd, ybh] at k8; omega
    have hlast : last = 0 := by
     rcases yav last with g | g
     ·exact g
     ·exfalso
      have := ybv (BB ^ lv.length) g
      rw [Nat.mul_one] at this; omega
    subst hlast; rw [hd]; exact hQ t2 W k1 k2 k3 (by omega) k5 (by rw [<- hr, hWs]; simp) hq
   ·rename_i hz
    have hbo : bo = 1 := by omega
    subst hbo; rw [Nat.mul_one] at k8; have hd : d = val BB lu / val BB lv + 1 := by
     refine Nat.le_antisymm q2 ?_
     rcases yau (val BB lu / val BB lv) d with g | g
     ·exact g
     ·exfalso
      have : d * val BB lv <= val BB lu := Nat.le_trans (ybi _ g) (Nat.div_mul_le_self _ _)
      omega
    have hk9 : val BB (W ++ [last]) + val BB lv = val BB lu % val BB lv + BB ^ (lv.length + 1) := by
     rw [hd, ybo, Nat.one_mul, ybh (val BB lu / val BB lv)] at k8
     omega
    refine z03 (t := t) (A := A) (Z := Z) (t0 := t0) hv (by omega) hlv hbase hb (by rw [hd]; exact Nat.succ_pos _) (by omega) W k4 k5 last k6 (by omega) (fun t3 r up n1 n2 n3 n4 n5 n6 => ?_) lv.length 0 0 t2 [] (by omega) k1 k2 (by simpa using k3) rfl (fun x hx => by cases hx) (by first | omega | decide) (by simp [val])
    have hrlt : val BB r < BB ^ lv.length := by
     have := zg7 (B := BB) zdt n4; rw [n3] at this; exact this
    rw [hWs, yag] at hk9; have hfin : val BB r + BB ^ lv.length * (up + last) = val BB lu % val BB lv + BB ^ lv.length * BB := by
     rw [ybm]; omega
    have hsplit : up + last = BB /\ val BB r = val BB lu % val BB lv := by
     have hmlt : val BB lu % val BB lv < BB ^ lv.length := by omega
     have hB : 0 < BB ^ lv.length := by omega
     have e1 : (val BB r + BB ^ lv.length * (up + last)) / BB ^ lv.length = up + last := by rw [Nat.add_mul_div_left _ _ hB, Nat.div_eq_of_lt hrlt]; simp
     have e2 : (val BB lu % val BB lv + BB ^ lv.length * BB) / BB ^ lv.length = BB := by rw [Nat.add_mul_div_left _ _ hB, Nat.div_eq_of_lt hmlt]; simp
     rw [hfin, e2] at e1; refine ⟨e1.symm, ?_⟩
     rw [<- e1] at hfin; omega
    have hl0 : (last + up) % BB = 0 := by rw [yap, hsplit.1]; exact Nat.mod_self _
    rw [hl0] at n2; have hd1 : d - 1 = val BB lu / val BB lv := by rw [hd]; exact Nat.add_sub_cancel _ _
    rw [hd1]; exact hQ t3 r (k1.off hb (fun c hc => by
     rw [n1 c hc, <- k2 c hc])) n1 n2 (by omega) n4 hsplit.2 hq
 ·rw [ybh, hBB]; exact ych _ _
end Go.Proofs
namespace Go.Am
theorem zyo {B p K : Nat} (hB : B = p * K) (hp : 0 < p) (hK : 0 < K) {x y : Nat} {l : List Nat} (hx : x < B) :
  val B (x :: y :: l) / p = (y * B + x) / p % B + B * (val B (y :: l) / p) := by
 have e1 : val B (x :: y :: l) = x + p * (K * val B (y :: l)) := by
  show x + B * val B (y :: l) = _
  rw [hB, ybj]
 have e2 : y * B + x = x + p * (K * y) := by rw [hB, yap, ybh y, ybj]
 have e3 : val B (y :: l) % p = y % p := by
  show (y + B * val B l) % p = _
  rw [hB, ybj, Nat.add_mul_mod_self_left]
 have e4 : K * y = K * (y % p) + B * (y / p) := by
  grind [Nat.div_add_mod]
 have e5 : K * val B (y :: l) = K * (y % p) + B * (val B (y :: l) / p) := by
  grind [Nat.div_add_mod]
 have e6 : x / p < K := ycu (by omega)
 have e7 : x / p + K * (y % p) < B := by
  have h1 : y % p < p := ycy _ hp
  have h2 : K * (y % p + 1) <= K * p := ybv _ h1
  grind
 rw [e1, Nat.add_mul_div_left _ _ hp, e2, Nat.add_mul_div_left _ _ hp, e4, <- Nat.add_assoc, Nat.add_mul_mod_self_left, Nat.mod_eq_of_lt e7, e5, <- Nat.add_assoc]
end Go.Am
namespace Go.Proofs
open Go Go.Am
variable [zb1]
variable {t : Tr zav}
theorem zzag {l : List Nat} {b L lo hi : Nat} (ho : Own t b .u32 l) (h1 : lo <= hi) (h2 : hi <= L) (h3 : lo < L) :
  zcb C30 189 ⟨0, t⟩ (.slice b 0 L L) (some (.int .i64 (lo : Int))) (some (.int .i64 (hi : Int))) = some (.slice b lo (hi - lo) (L - lo)) := by
 obtain ⟨c, hg, _⟩ := ho
 obtain ⟨⟨y, hy1, hy2⟩, ⟨z, hz1, hz2, hz3⟩⟩ := zec
 unfold zcb; rw [hy1, zad]; have hb : ∀ y (k : Nat), zlp y (.int .i64 (k : Int)) = zaj (Nat.ble k y) (some k) := fun y k => rfl
 unfold zga; simp only [zab.asStr, zab.asSlice]; rw [hy2, zad]; unfold zd7; rw [hz1, zad]; unfold zfj zom; simp only [hb]; rw [show Nat.ble hi L = true from zg3.2 h2]; simp only [zar, zad]
 rw [show Nat.ble lo hi = true from zg3.2 h1]; simp only [zar, zad]; have he2 : zdj ⟨0, t⟩ b z.size L lo false = false := by
  unfold zdj zax; rw [hg, zad]; rfl
 rw [he2, yay, cond_false]; have hf : zc2 ⟨0, t⟩ b z.size L lo false = true := by
  unfold zc2 zax; rw [hg, zad]; rfl
 rw [show Nat.ble hi L = true from zg3.2 h2, hf]; simp only [Bool.and_self, zar]; have hq : Nat.beq L lo = false := by
  grind [zds]
 rw [hq, cond_false, hz2, Nat.mul_one, ybw]
theorem zyp {qv : zab} {Z c : List Nat} {b n s L cn : Nat} {Q : zbo} (hn : n < 900000) (hc : c.length = n + 1) (hcl : za2 BB c) (hcn : c[n]? = some cn) (hbase : C30.base <= b) (hs : s < 32) (hL : n + 1 <= L)
  (hexit : ∀ t' W, Off b t t' -> Own t' b .u32 (W ++ [cn] ++ Z) -> W.length = n -> za2 BB W -> val BB W + BB ^ n * (cn / 2 ^ s) = val BB c / 2 ^ s -> jp 165 6 [.int .i64 (n : Int), .int .i64 (s : Int), .slice b 0 L L, qv, .int .i64 (n : Int), .int .i64 (n : Int)] t' Q) :
  ∀ (k i : Nat) (t' : Tr zav) (W : List Nat), i + k = n -> Off b t t' -> Own t' b .u32 (W ++ c.drop i ++ Z) -> W.length = i -> za2 BB W -> val BB W + BB ^ i * (val BB (c.drop i) / 2 ^ s) = val BB c / 2 ^ s →
  jp 165 6 [.int .i64 (n : Int), .int .i64 (s : Int), .slice b 0 L L, qv, .int .i64 (n : Int), .int .i64 (i : Int)] t' Q := by
 intro k; induction k with
 | zero =>
  intro i t' W hi hoff ho hW hWl hval; have hi' : i = n := by omega
  subst hi'
  have hd : c.drop i = [cn] := by
   rw [zcw hcn, ybt (by omega)]
  grind [val]
 | succ k ih =>
  intro i t' W hi hoff ho hW hWl hval; have hBB := zky
  obtain ⟨x, hx⟩ := getElem?_of_lt (l := c) (i := i) (by omega)
  obtain ⟨y, hy⟩ := getElem?_of_lt (l := c) (i := i + 1) (by omega)
  have hx32 : x < 4294967296 := by have := zb0 hcl hx; omega
  have hy32 : y < 4294967296 := by have := zb0 hcl hy; omega
  have hd1 : c.drop (i + 1) = y :: c.drop (i + 2) := zcw hy
  have hd0 : c.drop i = x :: y :: c.drop (i + 2) := by rw [zcw hx, hd1]
  have m0 := zo8 (A := W) (w := c.drop i) (Z := Z) (j := 0) (x := x) (by grind)
  have m1 := zo8 (A := W) (w := c.drop i) (Z := Z) (j := 1) (x := y) (by grind)
  rw [hW] at m0 m1; rw [yct] at m0; have g0 := zm6 zec (b := b) (n := L) (cap := L) (j := i) (by omega)
  have g1 := zm6 zec (b := b) (n := L) (cap := L) (j := i + 1) (by omega)
  have l0 := ho.load (C := C30) m0 zl8 rfl
  have l1 := ho.load (C := C30) m1 zl8 rfl
  have ei : (i : Int) + 1 = ((i + 1 : Nat) : Int) := by omega
  have e2 : (y : Int) * 4294967296 = ((y * 4294967296 : Nat) : Int) := by omega
  obtain ⟨t1, s1, s2, s3⟩ := ho.store (C := C30) hbase (j := i) (by grind) ((y * 4294967296 + x) / 2 ^ s % 4294967296) zl8 rfl
  have hset := zr0 (A := W) (w := c.drop i) (Z := Z) (j := 0) (x := (y * 4294967296 + x) / 2 ^ s % 4294967296) (by grind)
  rw [yct, hW] at hset; rw [hset] at s2; refine zzke ?_
  simp only [uL, uE, uIn, uZ, z9u, wpT, zcz]; rw [yab (by omega)]
  simp (disch := omega) only [ei, zan, g0, g1, zaa, l0, l1, zak]
  rw [za5 (n := (y : Int)) (by omega) (by omega), e2, za5 (n := ((y * 4294967296 : Nat) : Int)) (by omega) (by omega), za5 (n := (x : Int)) (by omega) (by omega), or32 hy32 hx32, zaa, zak, zaa, z5d (by omega), zaa, zak, zaa]
  have e3 : zal .u32 (((y * 4294967296 + x) / 2 ^ s : Nat) : Int) = (((y * 4294967296 + x) / 2 ^ s % 4294967296 : Nat) : Int) := by
   grind [zeb]
  rw [e3]; intro _ _ _; rw [s1, zaa]; have hw : (y * 4294967296 + x) / 2 ^ s % 4294967296 < BB := by omega
  refine ih (i + 1) t1 (W ++ [(y * 4294967296 + x) / 2 ^ s % 4294967296]) (by omega) (hoff.trans s3) ?_ (by simp [hW]) (zek hWl hw) ?_
  ·grind
  ·have hst := zyo (B := BB) (p := 2 ^ s) (K := 2 ^ (32 - s)) (by rw [<- Nat.pow_add, show s + (32 - s) = 32 by omega, hBB]) (Nat.pow_pos (by decide)) (Nat.pow_pos (by decide)) (x := x) (y := y) (l := c.drop (i + 2)) (by omega)
   rw [<- hval, hd0, hst, zdi, hW, hd1, yag, ybm, hBB]; grind
end Go.Proofs
namespace Go.Proofs
open Go Go.Am
variable [zb1]
variable {t : Tr zav}
theorem z3a {lv : List Nat} {v : zab} {b bq m s L Lq U : Nat} {t0 : Tr zav} {Q : zbo} (hv : RSl t0 1 (zbc .u32 lv) v) (hl : lv.length = m + 2) (hm : m < 800000) (hlv : za2 BB lv) (hbase : C30.base <= b) (hbaseq : C30.base <= bq) (hb : t0.get b = none) (hbq : t0.get bq = none) (hne : b ≠ bq) (hL : L < 1000000)
  (htop : ∀ top, lv[m + 1]? = some top -> 2147483648 <= top) (hVpos : 0 < val BB lv)
  (hexit : ∀ t' q r Z, TLe t0 t' -> Own t' b .u32 (r ++ [0] ++ Z) -> Own t' bq .u32 q -> r.length = m + 2 -> za2 BB r -> za2 BB q -> q.length = Lq -> m + 3 + Z.length = L -> val BB r < val BB lv -> U = val BB lv * val BB q + val BB r -> jp 165 6 [.int .i64 ((m + 2 : Nat) : Int), .int .i64 (s : Int), .slice b 0 L L, .slice bq 0 Lq Lq, .int .i64 ((m + 2 : Nat) : Int), .int .i64 0] t' Q) :
  ∀ (j : Nat) (A c Z Qd : List Nat) (t' : Tr zav), A.length = j -> c.length = m + 3 -> za2 BB A -> za2 BB c -> za2 BB Qd -> A.length + (m + 3) + Z.length = L -> j + 1 + Qd.length = Lq -> val BB c < BB * val BB lv -> TLe t0 t' -> Own t' b .u32 (A ++ c ++ Z) -> Own t' bq .u32 (List.replicate (j + 1) 0 ++ Qd) -> U = val BB lv * (BB ^ (j + 1) * val BB Qd) + val BB (A ++ c) →
  jp 165 2 [.int .i64 ((m + 2 : Nat) : Int), .int .i64 (s : Int), v, .slice b 0 L L, .slice bq 0 Lq Lq, .int .i64 (j : Int)] t' Q := by
 intro j; induction j using Nat.strongRecOn with
 | ind j ih =>
  intro A c Z Qd t' hA hc hAl hcl hQl hLen hLq hlt ht ho hoq hU; have gs := zzag (b := b) (L := L) (lo := j) (hi := j + (m + 2) + 1) ho (by omega) (by omega) (by omega)
  rw [show j + (m + 2) + 1 - j = m + 3 by omega] at gs
  have e1 : (j : Int) + ((m + 2 : Nat) : Int) = ((j + (m + 2) : Nat) : Int) := by omega
  have e2 : ((j + (m + 2) : Nat) : Int) + 1 = ((j + (m + 2) + 1 : Nat) : Int) := by omega
  refine zzkf ?_
  simp only [uL, uZ, uW, z9v, wpT, zew]; rw [yab (by omega)]
  simp (disch := omega) only [e1, zan, e2, gs, zaa, q178]
  subst hA; refine zzh6 (A := A) (Z := Z) (t := t') (t0 := t0) hv hl hm hlv hbase hb hc hcl (by omega) htop hlt ht (Off.refl _ _) ho (fun t2 r k1 k2 k3 k4 k5 k6 k7 => ?_)
  have hoq2 := hoq.off (fun e => hne e.symm) k2
  have g1 := zm6 zec (b := bq) (n := Lq) (cap := Lq) (j := A.length) (by omega)
  obtain ⟨t3, s1, s2, s3⟩ := hoq2.store (C := C30) hbaseq (j := A.length) (by grind) (val BB c / val BB lv) zl8 rfl
  have hset : (List.replicate (A.length + 1) 0 ++ Qd).set A.length (val BB c / val BB lv) = List.replicate A.length 0 ++ ((val BB c / val BB lv) :: Qd) := by
   simp_all [List.replicate_succ']
  rw [hset] at s2; rw [zak, zaa, g1, zaa]; intro _ _ _; rw [s1, zaa]; have ho3 := k3.off hne s3
  have ht3 := k1.off hbq s3
  have hr : val BB r < val BB lv := by grind [Nat.mod_lt]
  have hdm := ych (val BB c) (val BB lv)
  have hU2 : U = val BB lv * (BB ^ A.length * val BB ((val BB c / val BB lv) :: Qd)) + val BB (A ++ r) := by
   grind [zjg, val]
  rcases hA : A.length with _ | j'
  ·have hnil : A = [] := List.eq_nil_of_length_eq_zero hA
   subst hnil; refine zzkf ?_
   have e3 : ((0 : Nat) : Int) - 1 = -1 := by omega
   rw [e3]; simp only [uL, uZ, uW, z9v, wpT, zew]; rw [yaa (by omega)]
   refine hexit t3 _ r Z ht3 (by simp_all) (by omega) k4 k5 (fun x hx => ?_) (by grind) (by omega) hr (by simp_all)
   rcases ybs.1 hx with rfl | hx
   ·exact k7
   ·exact hQl x hx
  ·obtain ⟨x, hx⟩ := getElem?_of_lt (l := A) (i := j') (by omega)
   have hAx : A = A.take j' ++ [x] := by
    rw [<- zdd hx, yca (by omega)]
   have hxB : x < BB := zb0 hAl hx
   have e3 : ((j' + 1 : Nat) : Int) - 1 = (j' : Int) := by omega
   rw [e3]; have hvx : val BB (x :: r) = x + BB * val BB r := rfl
   refine ih j' (by omega) (A.take j') (x :: r) (0 :: Z) ((val BB c / val BB lv) :: Qd) t3 (by grind) (by simp [k4]) (zfm hAl _) (fun y hy => ?_) (fun y hy => ?_) (by grind) (by grind) ?_ ht3 ?_ ?_ ?_
   ·rcases ybs.1 hy with rfl | hy
    ·exact hxB
    ·exact k5 y hy
   ·rcases ybs.1 hy with rfl | hy
    ·exact k7
    ·exact hQl y hy
   ·rw [hvx]
    have := ybv BB hr
    rw [Nat.mul_succ] at this; omega
   ·have : A.take j' ++ x :: r ++ 0 :: Z = A ++ (r ++ [0]) ++ Z := by
     conv => rhs; rw [hAx]
     simp
    grind
   ·grind
   ·rw [hU2, hA]
    have : A ++ r = A.take j' ++ x :: r := by
     grind
    rw [this]
end Go.Proofs
namespace Go.Am
theorem zzdy {a b q R p : Nat} (hp : 0 < p) (h : a * p = b * p * q + R) (hR : R < b * p) : a = b * q + R / p /\ R / p < b := by
 have h1 : p ∣ R := (Nat.dvd_add_right (⟨b * q, by rw [ybh b p, ybj]⟩ : p ∣ b * p * q)).1 (h ▸ ⟨a, ybh a p⟩)
 obtain ⟨R', rfl⟩ := h1
 rw [Nat.mul_div_cancel_left _ hp]; refine ⟨Nat.eq_of_mul_eq_mul_left hp ?_, Nat.lt_of_mul_lt_mul_left (a := p) ?_⟩
 all_goals grind
theorem div_v {B p K n top : Nat} {b rb : List Nat} (hB : B = p * K) (hp : 0 < p) (hlt : za2 B b) (hl : b.length = n + 1) (htop : b[n]? = some top) (ht : top * p < B) (hbig : B <= 2 * (top * p)) (hrl : za2 B rb) (hrb : rb.length = n + 2) (hv : val B rb = val B b * p) :
  val B (rb.take (n + 1)) = val B b * p /\ ∀ x, (rb.take (n + 1))[n]? = some x -> B <= 2 * x := by
 have hB0 : 0 < B := by omega
 have hbv : val B b = val B (b.take n) + B ^ n * top := by
  have := zd5 B b n
  simp_all [zcw, ybt, val]
 have hlow : val B (b.take n) < B ^ n := by
  have := zg7 hB0 (zfm hlt n)
  simp_all
 have hK : top < K := by
  simp_all [ybh]
 have hup : val B b * p < B ^ (n + 1) := by
  have h1 : val B b < B ^ n * (top + 1) := by grind
  have h2 : B ^ n * (top + 1) <= B ^ n * K := ybv _ hK
  have h3 : val B b * p < B ^ n * K * p := Nat.mul_lt_mul_of_pos_right (by omega) hp
  grind
 have hsplit := zd5 B rb (n + 1)
 have htl : (rb.take (n + 1)).length = n + 1 := by grind
 rw [htl] at hsplit; have hz : val B (rb.drop (n + 1)) = 0 := by
  rcases yav (val B (rb.drop (n + 1))) with h | h
  ·exact h
  ·exfalso
   have := ybv (B ^ (n + 1)) h
   omega
 have hval : val B (rb.take (n + 1)) = val B b * p := by simp_all
 refine ⟨hval, fun x hx => ?_⟩
 have h1 : val B (rb.take (n + 1)) = val B ((rb.take (n + 1)).take n) + B ^ n * x := by
  have := zd5 B (rb.take (n + 1)) n
  simp_all [zcw, ybt, val]
 have h2 : val B ((rb.take (n + 1)).take n) < B ^ n := by
  grind [zg7, zfm]
 have h3 : B ^ n * (top * p) <= val B b * p := by
  grind [Nat.add_mul]
 have h4 : B ^ n * (top * p) < B ^ n * (x + 1) := by grind
 have h5 : top * p < x + 1 := Nat.lt_of_mul_lt_mul_left h4
 omega
theorem div_u {B p n j : Nat} {a b ru : List Nat} (hB0 : 0 < B) (hal : za2 B a) (hb : B ^ n <= val B b) (hj : a.length = j + (n + 1)) (hru : ru.length = a.length + 1) (hp : 0 < p) (hv : val B ru = val B a * p) : val B (ru.drop j) < B * (val B b * p) := by
 have h1 := zd5 B ru j
 have htl : (ru.take j).length = j := by grind
 rw [htl] at h1; have h2 : val B a < B ^ (j + (n + 1)) := by grind [zg7]
 have h3 : val B a * p < B ^ (j + (n + 1)) * p := Nat.mul_lt_mul_of_pos_right h2 hp
 have h4 : B ^ (j + (n + 1)) * p = B ^ j * (B * (B ^ n * p)) := by
  rw [Nat.pow_add, yag, ybh (B ^ n) B, ybj, ybj]
 have h5 : B ^ j * val B (ru.drop j) < B ^ j * (B * (B ^ n * p)) := by omega
 have h6 := Nat.lt_of_mul_lt_mul_left h5
 have h7 : B * (B ^ n * p) <= B * (val B b * p) := ybv _ (ybi _ hb)
 omega
end Go.Am
namespace Go.Proofs
open Go Go.Am
variable [zb1]
variable {t : Tr zav}
theorem zuj {l : List Nat} {b L hi : Nat} (ho : Own t b .u32 l) (h2 : hi <= L) (h3 : 0 < L) :
  zcb C30 189 ⟨0, t⟩ (.slice b 0 L L) none (some (.int .i64 (hi : Int))) = some (.slice b 0 hi L) := by
 obtain ⟨c, hg, _⟩ := ho
 obtain ⟨⟨y, hy1, hy2⟩, ⟨z, hz1, hz2, hz3⟩⟩ := zec
 unfold zcb; rw [hy1, zad]; have hb : ∀ y (k : Nat), zlp y (.int .i64 (k : Int)) = zaj (Nat.ble k y) (some k) := fun y k => rfl
 unfold zga; simp only [zab.asStr, zab.asSlice]; rw [hy2, zad]; unfold zd7; rw [hz1, zad]; unfold zfj zom; simp only [hb]; rw [show Nat.ble hi L = true from zg3.2 h2]; simp only [zar, zad]
 have he2 : zdj ⟨0, t⟩ b z.size L 0 false = false := by
  unfold zdj zax; rw [hg, zad]; rfl
 rw [he2, yay, cond_false]; have hf : zc2 ⟨0, t⟩ b z.size L 0 false = true := by
  unfold zc2 zax; rw [hg, zad]; rfl
 grind [zg3, zar]
theorem zum {b o n c : Nat} : same 10 (.slice b o n c) (.slice b o n c) = true := by
 simp [same]
theorem z29 {q W Z : List Nat} {b bq n s L Lq : Nat} {Q : zbo} (ho : Own t b .u32 (W ++ [0] ++ Z)) (hoq : Own t bq .u32 q) (hW : W.length = n) (hn : n < 1000000) (hL : n + 1 + Z.length = L) (hq : q.length = Lq) (hLq : Lq < 1000000)
  (hQ : ∀ qv rv, RSl t 1 (zbc .u32 (zcu q)) qv -> RSl t 1 (zbc .u32 (zcu W)) rv -> Q (.tup [qv, rv]) t) :
  jp 165 6 [.int .i64 (n : Int), .int .i64 (s : Int), .slice b 0 L L, .slice bq 0 Lq Lq, .int .i64 (n : Int), .int .i64 (n : Int)] t Q := by
 have e1 := zuj (L := L) (hi := n) ho (by omega) (by omega)
 have e2 : RSl t 1 (zbc .u32 W) (.slice b 0 n L) := by
  have := ho.slice (off := 0) (n := n) (cap := L) (by grind) (by omega)
  simp_all
 have e3 : RSl t 1 (zbc .u32 q) (.slice bq 0 Lq Lq) := by
  have := hoq.all (cap := Lq) (by omega)
  simp_all
 obtain ⟨qv, f1, f2⟩ := zk1 (by omega) e3
 obtain ⟨rv, f3, f4⟩ := zk1 (by omega) e2
 refine zzke ?_
 simp only [uL, uE, uIn, uZ, z9u, wpT, zcz]; rw [yaa (by omega)]
 simp only [e1, zaa, zzmd, f1, f3]; grind [zum]
theorem zst {a b : List Nat} {u v : zab} {Q : zbo} (hu : RSl t 1 (zbc .u32 a) u) (hv : RSl t 1 (zbc .u32 b) v) (ha : a.length < 700000) (hal : za2 BB a) (hbl : za2 BB b) (han : norm a) (hbn : norm b) (hb0 : b ≠ [])
  (hQ : ∀ t' q r qv rv, TLe t t' -> RSl t' 1 (zbc .u32 q) qv -> RSl t' 1 (zbc .u32 r) rv -> za2 BB q -> za2 BB r -> norm q -> norm r -> val BB a = val BB b * val BB q + val BB r -> val BB r < val BB b -> Q (.tup [qv, rv]) t') :
  Wc C30 F 165 [u, v] t Q := by
 have hBB := zky
 have hB1 : 1 < BB := by omega
 have hlt := zzee hB1 hal hbl han hbn
 refine w165 ?_
 simp only [uI, uL, uX, uZ, uW, t165, wpT, q169, zzkz (by omega) hu hv, zaa, zak, zcz]
 by_cases hc : zxt a b < 0
 ·rw [yab hc]
  simp only [q174]; refine zzin hu (by omega) fun t' v' h1 h2 => ?_
  exact hQ t' [] a _ _ h1 ⟨[], .inl ⟨rfl, rfl⟩, by simp [zbc, RDs]⟩ h2 (fun x hx => by cases hx) hal (fun h => absurd rfl h) han (by simp [val]) (hlt.1 hc)
 ·rw [yaa hc]
  have hge : val BB b <= val BB a := Nat.le_of_not_lt fun h => hc (hlt.2 h)
  have hlen : b.length <= a.length := zeq hB1 hal hbn hge
  simp only [hv.len, zaa, zak, zbl, zg9]; by_cases h1 : b.length = 1
  ·rw [yab (by omega)]
   obtain ⟨d, rfl⟩ : ∃ d, b = [d] := by
    match b, h1 with
    | [d], _ => simp_all
   have hd : d < 4294967296 := by have := hbl d (by simp); omega
   have hd0 : 0 < d := by have := hbn (by simp); grind
   obtain ⟨c, off, g1, g2⟩ := hv.idx zec (i := 0) (x := d) rfl
   have g1' : zai C30 189 v (.int .i64 0) = some (.ptr c off) := g1
   simp only [g1', g2, zaa, zak, q175]; refine zzdu hu (by omega) (by simp_all) hd hd0 fun t' v' q r k1 k2 k3 k4 k5 k6 => ?_
   simp only [zb3, zab.asTup, zad, zbs, yaz, yba, zaa, zak]; intro b' hb' _; obtain ⟨H', m1, m2, m3⟩ := zzb2 (k := .u32) zjh rfl zl8 rfl rfl r trivial hb'
   have hR := m2.all (cap := 1) (by simp)
   obtain ⟨rv, f1, f2⟩ := zk1 (by simp) hR
   have f1' : pvC C30 F 140 [.slice b' 0 1 1] H'.t = some rv := f1
   rw [m1]; simp only [zaa, zzmd, f1']; rw [<- hBB] at k3 k6; have hrl : za2 BB [r] := fun x hx => by grind
   refine hQ H'.t (zcu q) (zcu [r]) v' rv (k1.trans m3) (k2.mono m3) f2 (zcx k3) (zcx hrl) (zdy _) (zdy _) ?_ ?_
   all_goals grind [zet, val]
  ·rw [yaa (by omega)]
   have hbpos : 0 < b.length := List.length_pos_iff.2 hb0
   obtain ⟨m, hm⟩ : ∃ m, b.length = m + 2 := ⟨b.length - 2, by omega⟩
   obtain ⟨j, hj⟩ : ∃ j, a.length = j + (m + 2) := ⟨a.length - (m + 2), by omega⟩
   obtain ⟨top, htop⟩ := getElem?_of_lt (l := b) (i := m + 1) (by omega)
   have htlt : top < 4294967296 := by have := zb0 hbl htop; omega
   have ht0 : 0 < top := by
    have := hbn hb0
    grind
   obtain ⟨s, hs, hs1, hs2, hs3⟩ := zzbx (t := t) htlt ht0
   obtain ⟨c, off, g1, g2⟩ := hv.idx zec htop
   have eb : ((m + 2 : Nat) : Int) - 1 = ((m + 1 : Nat) : Int) := by omega
   simp (disch := omega) only [hm, eb, zan, g1, g2, zaa, zak, q176, hs3, q177]
   refine zuk hv (by omega) (by simp_all) hs fun t1 b1 rb k1 k2 k3 k4 k5 k6 k7 => ?_
   rw [<- hBB] at k6 k7; rw [hm] at k5 ⊢
   have hK : BB = 2 ^ s * 2 ^ (32 - s) := by rw [<- Nat.pow_add, show s + (32 - s) = 32 by omega, hBB]
   have hp : 0 < 2 ^ s := Nat.pow_pos (by decide)
   obtain ⟨w1, w2⟩ := div_v (n := m + 1) hK hp hbl hm htop (by omega) (by omega) k6 k5 k7
   have e1 := zuj (L := m + 2 + 1) (hi := m + 2) k4 (by omega) (by omega)
   have hv1 : RSl t1 1 (zbc .u32 (rb.take (m + 2))) (.slice b1 0 (m + 2) (m + 2 + 1)) := by
    have := k4.slice (off := 0) (n := m + 2) (cap := m + 2 + 1) (by omega) (by omega)
    simp_all
   simp only [e1, zaa]; refine zuk (hu.mono k1) (by omega) (by simp_all) hs fun t2 b2 ra n1 n2 n3 n4 n5 n6 n7 => ?_
   rw [<- hBB] at n6 n7; rw [hj] at n5 ⊢
   have ea : ((j + (m + 2) : Nat) : Int) - ((m + 2 : Nat) : Int) = (j : Int) := by omega
   have ea2 : (j : Int) + 1 = ((j + 1 : Nat) : Int) := by omega
   simp (disch := omega) only [hu.len, zbl, hj, zaa, zak, ea, ea2, zan]
   intro bq hbq hbaseq; obtain ⟨t3, p1, p2, p3, p4⟩ := zkb (C := C30) (k := .u32) zjh rfl zl8 rfl rfl (by decide) (n := j + 1) (by omega) hbq
   rw [p1]; have el : zb6 (.slice bq 0 (j + 1) (j + 1)) = some (.int .i64 ((j + 1 : Nat) : Int)) := rfl
   have el2 : ((j + 1 : Nat) : Int) - 1 = (j : Int) := by omega
   simp (disch := omega) only [zaa, el, zak, el2, zan]
   have hne : b2 ≠ bq := by
    intro e; obtain ⟨c, hc1, _⟩ := n4
    simp_all
   have hbq1 : t1.get bq = none := by
    cases hg : t1.get bq with
    | none => rfl
    | some x => rw [n1 _ _ hg] at hbq; cases hbq
   have hVpos : 0 < val BB (rb.take (m + 2)) := by
    rw [w1]; refine Nat.mul_pos ?_ hp
    have := z8u (B := BB) hbn hb0
    grind
   have hbge : BB ^ (m + 1) <= val BB b := by
    have := z8u (B := BB) hbn hb0
    simp_all
   have hcl := div_u (n := m + 1) (j := j) (p := 2 ^ s) zdt hal hbge (by omega) (by omega) hp n7
   have hta : ra.take j ++ ra.drop j = ra := List.take_append_drop _ _
   refine z3a (U := val BB ra) hv1 (by grind) (by omega) (zfm k6 _) n3 hbaseq n2 hbq1 hne (by omega) (fun x hx => by grind) hVpos (fun t4 q r Z z1 z2 z3 z4 z5 z6 z7 z8 z9 z10 => ?_) j (ra.take j) (ra.drop j) [] [] t3 (by grind) (by grind) (zfm n6 _) (zpn n6 _) (fun x hx => by cases hx) (by grind) (by simp) ?_ (n1.trans p3) ?_ (by simp_all) ?_
   ·have hcl2 : za2 BB (r ++ [0]) := zek z5 zdt
    refine zyp (t := t4) (Z := Z) (c := r ++ [0]) (cn := 0) (by omega) (by simp [z4]) hcl2 (by simp_all) n3 hs (by omega) (fun t5 W y1 y2 y3 y4 y5 => ?_) (m + 2) 0 t4 [] (by omega) (Off.refl _ _) (by simp_all) rfl (fun x hx => by cases hx) (by rw [ycr, Nat.pow_zero, Nat.one_mul]; exact ybw _)
    have y6 : val BB W = val BB r / 2 ^ s := by
     grind [zdi, Nat.zero_div]
    rw [w1] at z9 z10; rw [n7] at z10; obtain ⟨x1, x2⟩ := zzdy hp z10 z9
    refine z29 y2 (z3.off (fun e => hne e.symm) y1) y3 (by omega) (by omega) z7 (by omega) fun qv rv x3 x4 => ?_
    have ht5 : TLe t t5 := k1.trans (z1.off n2 y1)
    grind [zcx, zdy, zet]
   ·simp_all
   ·rw [hta, ycd]; exact n4.tle p3
   simp_all [val]
end Go.Proofs
namespace Go.Am
def wd (l : List Nat) (i : Nat) : Nat := (l[i]?).getD 0
theorem z1e {B : Nat} (hB : 0 < B) {l : List Nat} (h : za2 B l) (i : Nat) : wd l i < B := by
 unfold wd
 cases hx : l[i]? with
 | none => exact hB
 | some x => exact zb0 h hx
theorem zhw (B : Nat) (l : List Nat) (i : Nat) : val B (l.take (i + 1)) = val B (l.take i) + B ^ i * wd l i := by
 unfold wd
 cases hx : l[i]? with
 | none =>
  grind [List.take_of_length_le]
 | some x =>
  have hi := (ybc.1 hx).1
  rw [zdd hx, zdi]; grind
theorem zzdz {B P u v Va Vb w x y bo ai bi x' y' lx ly bo' W : Nat} (h : W + P * x + v * Vb = u * Va + P * (y + bo)) (hx : B * x' + lx = x + u * ai) (hy : B * y' + ly = y + v * bi) (hw : lx + B * bo' = w + ly + bo) :
  (W + P * w) + P * B * x' + v * (Vb + P * bi) = u * (Va + P * ai) + P * B * (y' + bo') := by
 grind
theorem zzh9 {P W x z X Y : Nat} (h : W + P * x + Y = X + P * z) (hW : W < P) (hX : X < P) (hle : Y <= X) : W = X - Y := by
 rcases Nat.lt_trichotomy x z with g | g | g
 ·have := ybv P g
  grind
 ·grind
 ·have := ybv P g
  grind
theorem z5v {B u x a : Nat} (hx : x <= u) (ha : a < B) : (x + u * a) / B <= u := by
 have h : x + u * a <= u * B := by
  have := ybv u (Nat.succ_le_of_lt ha)
  grind
 simp_all [Nat.div_le_of_le_mul, ybh]
end Go.Am
namespace Go.Proofs
open Go Go.Am
variable [zb1]
variable {t : Tr zav}
theorem z4m {x u a : Nat} (hx : x <= u) (hu : u < 4294967296) (ha : a < 4294967296) : zal .u64 ((x : Int) + zal .u64 ((u : Int) * zal .u64 (a : Int))) = ((x + u * a : Nat) : Int) := by
 have h : u * a <= 4294967295 * 4294967295 := ydb (by omega) (by omega)
 grind [za5]
theorem z7p {la lb : List Nat} {pa pb w : zab} {u v x y bo n i : Nat} {Q : zbo} (ha : RSl t 1 (zbc .u32 la) pa) (hb : RSl t 1 (zbc .u32 lb) pb) (hal : za2 BB la) (hbl : za2 BB lb) (hu : u < 4294967296) (hv : v < 4294967296) (hx : x <= u) (hy : y <= v) (hi : i < n)
  (h : jp 171 21 [.int .u64 (u : Int), pa, .int .u64 (v : Int), pb, w, .int .u64 ((x + u * wd la i : Nat) : Int), .int .u64 ((y + v * wd lb i : Nat) : Int), .int .u32 (bo : Int), .int .i64 (i : Int), .int .i64 (n : Int), .int .i64 (i : Int)] t Q) :
  jp 171 2 [.int .u64 (u : Int), pa, .int .u64 (v : Int), pb, w, .int .u64 (x : Int), .int .u64 (y : Int), .int .u32 (bo : Int), .int .i64 (n : Int), .int .i64 (i : Int)] t Q := by
 have hBB := zky
 have second : jp 171 17 [.int .u64 (u : Int), pa, .int .u64 (v : Int), pb, w, .int .u64 ((x + u * wd la i : Nat) : Int), .int .u64 (y : Int), .int .u32 (bo : Int), .int .i64 (i : Int), .int .i64 (n : Int), .int .i64 (i : Int)] t Q := by
  refine zzm4 ?_
  simp only [uI, uL, uZ, z9s, wpT, hb.len, zaa, zak, zbl, zcz]; by_cases hlen : i < lb.length
  ·obtain ⟨z, hz⟩ := getElem?_of_lt hlen
   have hz32 : z < 4294967296 := by have := zb0 hbl hz; omega
   obtain ⟨c, off, g1, g2⟩ := hb.idx zec hz
   grind [zaa, zak, z4m, wd]
  grind [wd]
 refine zzkc ?_
 simp only [uI, uL, uZ, z9r, wpT, zcz]; rw [yab (by omega)]
 simp only [ha.len, zaa, zak, zbl]; by_cases hlen : i < la.length
 ·obtain ⟨z, hz⟩ := getElem?_of_lt hlen
  have hz32 : z < 4294967296 := by have := zb0 hal hz; omega
  obtain ⟨c, off, g1, g2⟩ := ha.idx zec hz
  grind [zaa, zak, z4m, wd]
 grind [wd]
end Go.Proofs
namespace Go.Proofs
open Go Go.Am
variable [zb1]
variable {t : Tr zav}
theorem zzd0 {la lb : List Nat} {pa pb : zab} {b u v n : Nat} {t0 : Tr zav} {Q : zbo} (ha : RSl t0 1 (zbc .u32 la) pa) (hb : RSl t0 1 (zbc .u32 lb) pb) (hal : za2 BB la) (hbl : za2 BB lb) (hu : u < 4294967296) (hv : v < 4294967296) (hn : n < 1000000) (hbase : C30.base <= b) (hb0 : t0.get b = none)
  (hQ : ∀ t' W rv x z, TLe t0 t' -> RSl t' 1 (zbc .u32 (zcu W)) rv -> W.length = n -> za2 BB W -> val BB W + BB ^ n * x + v * val BB (lb.take n) = u * val BB (la.take n) + BB ^ n * z -> Q rv t') :
  ∀ (k i x y bo : Nat) (t' : Tr zav) (W : List Nat), i + k = n -> TLe t0 t' -> Own t' b .u32 (W ++ List.replicate k 0) -> W.length = i -> za2 BB W -> x <= u -> y <= v -> bo < 2 -> val BB W + BB ^ i * x + v * val BB (lb.take i) = u * val BB (la.take i) + BB ^ i * (y + bo) →
  jp 171 2 [.int .u64 (u : Int), pa, .int .u64 (v : Int), pb, .slice b 0 n n, .int .u64 (x : Int), .int .u64 (y : Int), .int .u32 (bo : Int), .int .i64 (n : Int), .int .i64 (i : Int)] t' Q := by
 intro k; have hBB := zky
 induction k with
 | zero =>
  intro i x y bo t' W hi ht ho hW hWl hx hy hbo hval; have hi' : i = n := by omega
  subst hi'
  have e3 : RSl t' 1 (zbc .u32 W) (.slice b 0 i i) := by
   rw [List.replicate_zero, ycd] at ho; have := ho.all (cap := i) (by omega)
   simp_all
  obtain ⟨rv, f1, f2⟩ := zk1 (by omega) e3
  refine zzkc ?_
  simp only [uI, uL, uZ, z9r, wpT, zcz]; rw [yaa (by omega)]
  simp only [zzmd, f1, zaa]; grind
 | succ k ih =>
  intro i x y bo t' W hi ht ho hW hWl hx hy hbo hval; refine z7p (ha.mono ht) (hb.mono ht) hal hbl hu hv hx hy (by omega) ?_
  have wa := z1e zdt hal i
  have wb := z1e zdt hbl i
  have cx := z5v hx wa
  have cy := z5v hy wb
  have va := zhw BB la i
  have vb := zhw BB lb i
  generalize wd la i = ai at *
  generalize wd lb i = bi at *
  generalize hX : x + u * ai = X at *
  generalize hY : y + v * bi = Y at *
  have ex : zal .u32 (X : Int) = ((X % 4294967296 : Nat) : Int) := by rw [zeb]; omega
  have ey : zal .u32 (Y : Int) = ((Y % 4294967296 : Nat) : Int) := by rw [zeb]; omega
  have fx : Int.fdiv (X : Int) 4294967296 = ((X / 4294967296 : Nat) : Int) := zi1 X 4294967296
  have fy : Int.fdiv (Y : Int) 4294967296 = ((Y / 4294967296 : Nat) : Int) := zi1 Y 4294967296
  have hs := zzga (t := t') (x := X % 4294967296) (y := Y % 4294967296) (b := bo) (ycy _ (by decide)) (ycy _ (by decide)) hbo
  obtain ⟨w, hw⟩ : ∃ w, w = (X % 4294967296 + 8589934592 - Y % 4294967296 - bo) % 4294967296 := ⟨_, rfl⟩
  obtain ⟨bo', hbo'⟩ : ∃ bo' : Nat, bo' = if X % 4294967296 < Y % 4294967296 + bo then 1 else 0 := ⟨_, rfl⟩
  rw [<- hw, <- hbo'] at hs; have hwlt : w < BB := by omega
  have hb2 : bo' < 2 := by rw [hbo']; split <;> omega
  have hsum : X % 4294967296 + 4294967296 * bo' = w + Y % 4294967296 + bo := by
   rw [hw, hbo']; split <;> omega
  have g1 := zm6 zec (b := b) (n := n) (cap := n) (j := i) (by omega)
  obtain ⟨t1, s1, s2, s3⟩ := ho.store (C := C30) hbase (j := i) (by grind) w zl8 rfl
  have hset := zhf (p := W) (n := k) (x := w)
  rw [hW] at hset; rw [hset] at s2; have ei : (i : Int) + 1 = ((i + 1 : Nat) : Int) := by omega
  refine zzm3 ?_
  simp only [uL, uIn, uX, uZ, z9q, wpT, ex, ey, q179, hs, zaa, zb3, zab.asTup, zad, zbs, yaz, yba, zak, g1, fx, fy, ei]; intro _ _ _; rw [s1, zaa, zan (by omega) (by omega)]
  rw [hBB] at cx cy; refine ih (i + 1) (X / 4294967296) (Y / 4294967296) bo' t1 (W ++ [w]) (by omega) (ht.off hb0 s3) s2 (by simp [hW]) (zek hWl hwlt) cx cy hb2 ?_
  have hst := zzdz (B := BB) (P := BB ^ i) (ai := ai) (bi := bi) (x' := X / 4294967296) (y' := Y / 4294967296) (lx := X % 4294967296) (ly := Y % 4294967296) (w := w) (bo' := bo') hval (by grind) (by grind) (by simp_all)
  grind [zdi]
theorem zhk {la lb : List Nat} {pa pb : zab} {u v : Nat} {Q : zbo} (ha : RSl t 1 (zbc .u32 la) pa) (hb : RSl t 1 (zbc .u32 lb) pb) (hal : za2 BB la) (hbl : za2 BB lb) (hu : u < 4294967296) (hv : v < 4294967296) (hla : la.length < 700000) (hlb : lb.length < 700000) (hge : v * val BB lb <= u * val BB la)
  (hQ : ∀ t' r rv, TLe t t' -> RSl t' 1 (zbc .u32 r) rv -> za2 BB r -> norm r -> val BB r = u * val BB la - v * val BB lb -> Q rv t') :
  Wc C30 F 171 [.int .u64 (u : Int), pa, .int .u64 (v : Int), pb] t Q := by
 have hBB := zky
 refine w171 ?_
 simp only [uI, uZ, uW, t171, wpT, ha.len, hb.len, zaa, zak, zbl]; obtain ⟨n, hn1, hn2, hn3, hn4⟩ : ∃ n : Nat, (bif iLt (la.length : Int) (lb.length : Int) then (lb.length : Int) else (la.length : Int)) + 1 = (n : Int) /\ la.length < n /\ lb.length < n /\ n < 700002 := by
  cases hc : iLt (la.length : Int) (lb.length : Int) with
  | true => have := zcz.1 hc; exact ⟨lb.length + 1, by simp, by omega, by omega, by omega⟩
  | false =>
   have : ¬ ((la.length : Int) < (lb.length : Int)) := fun h => by grind [zcz]
   exact ⟨la.length + 1, by simp, by omega, by omega, by omega⟩
 rw [hn1, zan (by omega) (by omega)]
 intro b hb0 hbase; obtain ⟨t', g1, g2, g3, g4⟩ := zkb (C := C30) (k := .u32) zjh rfl zl8 rfl rfl (by decide) (n := n) (by omega) hb0
 rw [g1]; have el : zb6 (.slice b 0 n n) = some (.int .i64 (n : Int)) := rfl
 simp only [zaa, el, zak]; refine zzd0 ha hb hal hbl hu hv (by omega) hbase hb0 (fun t2 W rv x z k1 k2 k3 k4 k5 => ?_) n 0 0 0 0 t' [] (by omega) g3 (by simp_all) rfl (fun x hx => by cases hx) (by omega) (by omega) (by omega) (by simp [val])
 rw [yca (by omega), yca (by omega)] at k5
 have hP : u * val BB la < BB ^ n := by
  have h1 := zg7 zdt hal
  have h2 : BB ^ (la.length + 1) <= BB ^ n := yao zdt (by omega)
  have h3 : u * val BB la <= u * BB ^ la.length := ybv _ (Nat.le_of_lt h1)
  have h4 : u * BB ^ la.length < BB * BB ^ la.length := Nat.mul_lt_mul_of_pos_right (by omega) (Nat.pow_pos zdt)
  grind
 grind [zg7, zzh9, zcx, zdy, zet]
end Go.Proofs
namespace Go.Proofs
open Go Go.Am
variable [zb1]
variable {t : Tr zav}
theorem zzn9 {v : zab} {l : List Nat} {b : Nat} (hv : RSl t 1 (zbc .u32 l) v) (hb : t.get b = none) :
  ∃ H', zx9 v ⟨b, t⟩ = some (.ptr b 0, H') /\ TLe t H'.t /\ zao C30 189 ⟨0, H'.t⟩ (.ptr b 0) = some v := by
 have hc : v.cells = [v] := by
  obtain ⟨cl, h1, _⟩ := hv
  rcases h1 with ⟨rfl, _⟩ | ⟨_, _, _, rfl, _⟩ <;> rfl
 refine ⟨za7 ⟨b, t⟩ [v] none, by unfold zx9; rw [hc], ?_, ?_⟩
 ·intro c u hg
  show (t.set b _).get c = _
  grind [Tr.get_set]
 ·have hg : (za7 ⟨b, t⟩ [v] none).t.get b = some (.cells (Tr.ofList [v]) 1 none) := by
   show (t.set b _).get b = _
   rw [Tr.get_set, yab rfl]; rfl
  unfold zao; simp only [zab.asPtr, zad]; rw [zjh, zad]; unfold zax; rw [hg, zad]; simp only [zav.asCells, zad]; unfold znx; first
   | rfl
   | (rw [cond_false, Tr.get_ofList]; rfl)
theorem z1d {v : zab} {l : List Nat} {b i : Nat} (hv : RSl t 1 (zbc .u32 l) v) (hl : za2 BB l) (hload : zao C30 189 ⟨0, t⟩ (.ptr b 0) = some v) : pvC C30 F 189 [.int .i64 (i : Int), .ptr b 0] t = some (.int .u64 ((wd l i : Nat) : Int)) := by
 have hBB := zky
 refine zbg.2 (w189 ?_)
 simp only [uI, uL, uZ, t189, wpT, hload, zaa, hv.len, zak, zbl, zew]; by_cases h : i < l.length
 ·obtain ⟨x, hx⟩ := getElem?_of_lt h
  have hx32 : x < 4294967296 := by have := zb0 hl hx; omega
  obtain ⟨c, off, g1, g2⟩ := hv.idx zec hx
  grind [zaa, zak, za5, wd]
 grind [wd]
theorem zzc2 {v : zab} {l : List Nat} {n s : Nat} (hv : RSl t 1 (zbc .u32 l) v) (hl : za2 BB l) (hn : 3 <= n) (hn2 : n < 1000000) (hs : s < 32) (hb : (wd l (n - 1) * 4294967296 + wd l (n - 2)) * 2 ^ s < 18446744073709551616) :
  pvC C30 F 182 [v, .int .i64 (n : Int), .int .i64 (s : Int)] t = some (.int .u64 (((wd l (n - 1) * 4294967296 + wd l (n - 2)) * 2 ^ s + wd l (n - 3) / 2 ^ (32 - s) : Nat) : Int)) := by
 have hBB := zky
 refine zzh (w182 ?_)
 simp only [uE, uZ, uW, t182, wpT]; intro b hb0 _; obtain ⟨H', g1, g2, g3⟩ := zzn9 hv hb0
 rw [g1, zaa]; have w1 := z1e zdt hl (n - 1)
 have w2 := z1e zdt hl (n - 2)
 have w3 := z1e zdt hl (n - 3)
 have c1 := z1d (i := n - 1) (hv.mono g2) hl g3
 have c2 := z1d (i := n - 2) (hv.mono g2) hl g3
 have c3 := z1d (i := n - 3) (hv.mono g2) hl g3
 generalize wd l (n - 1) = x1 at *
 generalize wd l (n - 2) = x2 at *
 generalize wd l (n - 3) = x3 at *
 have e1 : (n : Int) - 1 = ((n - 1 : Nat) : Int) := by omega
 have e2 : (n : Int) - 2 = ((n - 2 : Nat) : Int) := by omega
 have e3 : (n : Int) - 3 = ((n - 3 : Nat) : Int) := by omega
 have e4 : (32 : Int) - (s : Int) = ((32 - s : Nat) : Int) := by omega
 have f : ∀ a, zkx (.func (.func 189) [] [.ptr b 0]) [a] = some (189, [a, .ptr b 0]) := fun _ => rfl
 have e5 : (x1 : Int) * 4294967296 = ((x1 * 4294967296 : Nat) : Int) := by omega
 rw [f, zaa, e1, zan (by omega) (by omega), q189, c1, zaa, zak, zaa, f, zaa, e2, zan (by omega) (by omega), q189, c2, zaa, zak, zaa, e5, za5 (by omega) (by omega), or32 (by omega) (by omega), zaa, zak, zaa, z5e (by omega) hb, zaa, zak, zaa, f, zaa, e3, zan (by omega) (by omega), q189, c3, zaa, zak, zaa, e4, zan (by omega) (by omega), z5d (by omega), zaa, zak, zaa]
 have hz : x3 / 2 ^ (32 - s) < 2 ^ s := ycu (by rw [<- Nat.pow_add, show 32 - s + s = 32 by omega]; omega)
 have hz2 : (2 : Nat) ^ s <= 2 ^ 31 := yao (by decide) (by omega)
 generalize x3 / 2 ^ (32 - s) = z at hz ⊢
 have ho := zrn (a := x1 * 4294967296 + x2) (b := z) (n := s) hz
 generalize (x1 * 4294967296 + x2) * 2 ^ s = h at hb ho ⊢
 have hz3 : z < 18446744073709551616 := by omega
 rw [zef (k := .u64) (show h < kHi .u64 from hb) (show z < kHi .u64 from hz3), ho, zaa, zak, zaa]
 exact ⟨rfl, g2⟩
end Go.Proofs
namespace Go.Proofs
open Go Go.Am
variable [zb1]
variable {t : Tr zav}
theorem zwe {A1 B1 : Nat} {P : Nat -> Nat -> Nat -> Nat -> Nat -> Nat -> Nat -> Nat -> Bool -> Prop} {Q : zbo} (hA : A1 < 18446744073709551616) (hB : B1 < 18446744073709551616)
  (hstep : ∀ x y u0 u1 u2 v0 v1 v2 ev, P x y u0 u1 u2 v0 v1 v2 ev -> 0 < y -> v2 <= y -> v1 + v2 <= x - y -> P y (x % y) u1 u2 (u1 + x / y * u2) v1 v2 (v1 + x / y * v2) (!ev))
  (hQ : ∀ x y u0 u1 u2 v0 v1 v2 ev, P x y u0 u1 u2 v0 v1 v2 ev -> Q (.agg [.int .u64 (u0 : Int), .int .u64 (u1 : Int), .int .u64 (v0 : Int), .int .u64 (v1 : Int), .bool ev]) t) :
  ∀ (y x u0 u1 u2 v0 v1 v2 : Nat) (ev : Bool) (c0 c1 c2 c3 : Int) (c4 : Bool), P x y u0 u1 u2 v0 v1 v2 ev -> A1 = v2 * x + v1 * y -> B1 = u2 * x + u1 * y -> y <= x -> 1 <= v2 -> v1 <= v2 →
  jp 170 2 [.int .u64 (x : Int), .int .u64 (y : Int), .int .u64 (u2 : Int), .int .u64 (v2 : Int), .int .u64 c0, .int .u64 c1, .int .u64 c2, .int .u64 c3, .bool c4, .int .u64 (u0 : Int), .int .u64 (u1 : Int), .int .u64 (v0 : Int), .int .u64 (v1 : Int), .bool ev] t Q := by
 intro y; induction y using Nat.strongRecOn with
 | ind y ih =>
  intro x u0 u1 u2 v0 v1 v2 ev c0 c1 c2 c3 c4 hP hx hy hle h1 h12; refine j170_2 ?_
  simp only [uE, zzji, wpT, zew]; by_cases g1 : v2 <= y
  ·rw [yab (by omega)]
   have hy0 : 0 < y := by omega
   have b1 : v2 * x <= A1 := by omega
   have b2 : x <= A1 := Nat.le_trans (yan x (by omega)) b1
   have b3 : v2 < 4294967296 := by
    rcases yau v2 4294967296 with h | h
    ·exact h
    ·exfalso
     have : 4294967296 * 4294967296 <= v2 * x := ydb h (by omega)
     omega
   have e1 : zal .u64 ((v1 : Int) + (v2 : Int)) = ((v1 + v2 : Nat) : Int) := by grind [za5]
   have e2 : zal .u64 ((x : Int) - (y : Int)) = ((x - y : Nat) : Int) := by grind [za5]
   rw [e1, e2]; by_cases g2 : v1 + v2 <= x - y
   ·rw [yab (by omega)]
    have hdm := ych x y
    have hmod : x % y < y := ycy _ hy0
    have hq1 : 1 <= x / y := by
     grind
    have hxq : x / y <= x := Nat.div_le_self _ _
    have e3 : zzhq .u64 (x : Int) (y : Int) = some (.int .u64 ((x / y : Nat) : Int)) := zw9 hy0 (by
     grind [za5])
    have e4 : zzff .u64 (x : Int) (y : Int) = some (.int .u64 ((x % y : Nat) : Int)) := zn5 hy0
    have hst := hstep x y u0 u1 u2 v0 v1 v2 ev hP hy0 g1 g2
    generalize x / y = q at *
    generalize x % y = r at *
    have nA : A1 = (v1 + q * v2) * y + v2 * r := by
     grind
    have nB : B1 = (u1 + q * u2) * y + u2 * r := by
     grind
    have bv : v1 + q * v2 <= A1 := Nat.le_trans (Nat.le_mul_of_pos_right _ hy0) (by omega)
    have bu : u1 + q * u2 <= B1 := Nat.le_trans (Nat.le_mul_of_pos_right _ hy0) (by omega)
    have bq : v2 <= q * v2 := yan _ hq1
    have e5 : zal .u64 ((v1 : Int) + zal .u64 ((q : Int) * (v2 : Int))) = ((v1 + q * v2 : Nat) : Int) := by
     grind [za5]
    have e6 : zal .u64 ((u1 : Int) + zal .u64 ((q : Int) * (u2 : Int))) = ((u1 + q * u2 : Nat) : Int) := by
     grind [za5]
    rw [e3, zaa, zak, zaa, e4, zaa, zak, zaa, e5, e6]; grind
   grind
  grind
end Go.Proofs
namespace Go.Am
def Lrel (a b x y u1 u2 v1 v2 : Nat) (ev : Bool) : Prop :=
 match ev with
 | false => u1 * v2 = u2 * v1 + 1 /\ x + v1 * b = u1 * a /\ y + u2 * a = v2 * b
 | true => u2 * v1 = u1 * v2 + 1 /\ x + u1 * a = v1 * b /\ y + v2 * b = u2 * a
def Lst (u1 u2 v1 v2 : Nat) : Prop := (u1 = 1 /\ v1 = 0 /\ u2 = 0) \/ (u1 <= v1 /\ u2 <= v2 /\ 1 <= u2 /\ 1 <= v1)
def zzi2 (a b u0 u1 v0 v1 : Nat) (ev : Bool) : Prop := ∃ x y, Lrel a b x y u0 u1 v0 v1 (!ev) /\ v1 <= y /\ v0 + v1 <= x - y /\ u0 <= v0 /\ u1 <= v1 /\ 1 <= u1 /\ 1 <= v0 /\ v0 <= v1
def Lsim (a b x y u0 u1 u2 v0 v1 v2 : Nat) (ev : Bool) : Prop := Lrel a b x y u1 u2 v1 v2 ev /\ 1 <= v2 /\ v1 <= v2 /\ Lst u1 u2 v1 v2 /\ (v0 = 0 \/ zzi2 a b u0 u1 v0 v1 ev)
theorem zze7 (a b : Nat) : Lsim a b a b 0 1 0 0 0 1 false := ⟨⟨by simp, by simp, by simp⟩, ybk _, by omega, .inl ⟨rfl, rfl, rfl⟩, .inl rfl⟩
theorem zze6 {a b x y u0 u1 u2 v0 v1 v2 : Nat} {ev : Bool} (h : Lsim a b x y u0 u1 u2 v0 v1 v2 ev) (hy : 0 < y) (h1 : v2 <= y) (h2 : v1 + v2 <= x - y) :
  Lsim a b y (x % y) u1 u2 (u1 + x / y * u2) v1 v2 (v1 + x / y * v2) (!ev) := by
 obtain ⟨k1, k2, k5, k3, k4⟩ := h
 have hq : 1 <= x / y := by rw [Nat.le_div_iff_mul_le hy]; omega
 have hdm := ych x y
 generalize x / y = q at *
 generalize x % y = r at *
 have hv2 : v2 <= q * v2 := yan _ hq
 have hu2 : u2 <= q * u2 := yan _ hq
 refine ⟨?_, by omega, by omega, ?_, ?_⟩
 ·cases ev with
  | false =>
   obtain ⟨m1, m2, m3⟩ := k1
   refine ⟨?_, m3, ?_⟩
   all_goals grind
  | true =>
   obtain ⟨m1, m2, m3⟩ := k1
   refine ⟨?_, m3, ?_⟩
   all_goals grind
 ·right
  rcases k3 with ⟨e1, e2, e3⟩ | ⟨g1, g2, g3, g4⟩
  ·grind
  ·have := ybv q g2
   omega
 ·rcases k3 with ⟨e1, e2, e3⟩ | ⟨g1, g2, g3, g4⟩
  ·omega
  ·right
   exact ⟨x, y, by simp_all, h1, h2, g1, g2, g3, g4, k5⟩
end Go.Am
namespace Go.Am
theorem zu3 {p q r s A B X Y : Nat} (hdet : p * s = q * r + 1) (hX : X + r * B = p * A) (hY : Y + q * A = s * B) : A = s * X + r * Y /\ B = q * X + p * Y := by
 have a1 : s * (X + r * B) = s * (p * A) := by rw [hX]
 have a2 : r * (Y + q * A) = r * (s * B) := by rw [hY]
 have a3 : q * (X + r * B) = q * (p * A) := by rw [hX]
 have a4 : p * (Y + q * A) = p * (s * B) := by rw [hY]
 have d1 : p * s * A = q * r * A + A := by rw [hdet, ybo, Nat.one_mul]
 have d2 : p * s * B = q * r * B + B := by rw [hdet, ybo, Nat.one_mul]
 have e1 : s * (p * A) = p * s * A := by rw [<- ybj, ybh s p]
 have e2 : r * (q * A) = q * r * A := by rw [<- ybj, ybh r q]
 have e3 : s * (r * B) = r * (s * B) := Nat.mul_left_comm _ _ _
 have e4 : q * (p * A) = p * (q * A) := Nat.mul_left_comm _ _ _
 have e5 : q * (r * B) = q * r * B := (ybj _ _ _).symm
 have e6 : p * (s * B) = p * s * B := (ybj _ _ _).symm
 rw [ybm] at a1 a2 a3 a4; constructor <;> omega
theorem zzz {p q r s a b A B W α β x y : Nat} (hx : x + r * b = p * a) (hy : y + q * a = s * b) (hA : A = W * a + α) (hB : B = W * b + β) (ha : α < W) (hb : β < W) (hrs : r + s <= x - y) (h1 : 1 <= r + s) (hq : q <= y) :
  ∃ X Y, X + r * B = p * A /\ Y + q * A = s * B /\ Y < X := by
 obtain ⟨D, hD⟩ : ∃ D, x = y + D := ⟨x - y, by omega⟩
 have w1 : p * A = W * x + r * (W * b) + p * α := by
  rw [hA, ybm, Nat.mul_left_comm p W, <- hx, ybm, Nat.mul_left_comm W r]
 have w2 : r * B = r * (W * b) + r * β := by rw [hB, ybm]
 have w3 : s * B = W * y + q * (W * a) + s * β := by
  rw [hB, ybm, Nat.mul_left_comm s W, <- hy, ybm, Nat.mul_left_comm W q]
 have w4 : q * A = q * (W * a) + q * α := by rw [hA, ybm]
 have i1 : r * β <= W * D := by
  rw [ybh W D]; exact ydb (by omega) (by omega)
 have i2 : q * α <= W * y := by
  rw [ybh W y]; exact ydb hq (by omega)
 have i3 : (r + s) * β < W * D := by
  have h2 : (r + s) * β < (r + s) * W := Nat.mul_lt_mul_of_pos_left hb (by omega)
  have h3 : (r + s) * W <= D * W := ybi _ (by omega)
  grind
 have w5 : W * x = W * y + W * D := by rw [hD, ybm]
 rw [ybo] at i3; exact ⟨p * A - r * B, s * B - q * A, by omega, by omega, by omega⟩
theorem lehmer {a b A B W α β u0 u1 v0 v1 : Nat} {ev : Bool} (hA : A = W * a + α) (hB : B = W * b + β) (ha : α < W) (hb : β < W) (h : zzi2 a b u0 u1 v0 v1 ev) :
  ∃ X Y, (ev = true -> X + v0 * B = u0 * A /\ Y + u1 * A = v1 * B) /\ (ev = false -> X + u0 * A = v0 * B /\ Y + v1 * B = u1 * A) /\ Y < X /\ A = v1 * X + v0 * Y /\ B = u1 * X + u0 * Y /\ X + Y < A + B := by
 obtain ⟨x, y, k1, k2, k3, k4, k5, k6, k7, _⟩ := h
 have fin : ∀ X Y : Nat, Y < X -> A = v1 * X + v0 * Y -> B = u1 * X + u0 * Y -> X + Y < A + B := by
  intro X Y g1 g2 g3; have j1 : X <= v1 * X := yan _ (by omega)
  have j2 : X <= u1 * X := yan _ (by omega)
  omega
 cases ev with
 | true =>
  obtain ⟨m1, m2, m3⟩ := k1
  obtain ⟨X, Y, g1, g2, g3⟩ := zzz m2 m3 hA hB ha hb k3 (by omega) (by omega)
  obtain ⟨d1, d2⟩ := zu3 m1 g1 g2
  exact ⟨X, Y, fun _ => ⟨g1, g2⟩, (fun h => absurd h (by decide)), g3, d1, d2, fin X Y g3 d1 d2⟩
 | false =>
  obtain ⟨m1, m2, m3⟩ := k1
  obtain ⟨X, Y, g1, g2, g3⟩ := zzz m2 m3 hB hA hb ha (by omega) (by omega) k2
  have m1' : v0 * u1 = v1 * u0 + 1 := by grind
  obtain ⟨d1, d2⟩ := zu3 m1' g1 g2
  exact ⟨X, Y, (fun h => absurd h (by decide)), fun _ => ⟨g1, g2⟩, g3, d2, d1, fin X Y g3 d2 d1⟩
theorem z3r {a b u0 u1 v0 v1 : Nat} {ev : Bool} (ha : a < 18446744073709551616) (hb : b < 18446744073709551616) (h : zzi2 a b u0 u1 v0 v1 ev) : u0 < 4294967296 /\ u1 < 4294967296 /\ v0 < 4294967296 /\ v1 < 4294967296 := by
 obtain ⟨x, y, k1, k2, k3, k4, k5, k6, k7, k8⟩ := h
 have key : a = v1 * x + v0 * y := by
  cases ev with
  | true =>
   obtain ⟨m1, m2, m3⟩ := k1
   grind
  | false =>
   obtain ⟨m1, m2, m3⟩ := k1
   grind
 have : v1 < 4294967296 := by
  rcases yau v1 4294967296 with g | g
  ·exact g
  ·exfalso
   have : 4294967296 * 4294967296 <= v1 * x := ydb g (by omega)
   omega
 omega
end Go.Am
namespace Go.Am
theorem zzfp {B : Nat} {l : List Nat} {m : Nat} (hl : l.length <= m + 3) : val B l = val B (l.take m) + B ^ m * (wd l m + B * (wd l (m + 1) + B * wd l (m + 2))) := by
 have h0 := zhw B l m
 have h1 : val B (l.take (m + 2)) = val B (l.take (m + 1)) + B ^ (m + 1) * wd l (m + 1) := zhw B l (m + 1)
 have h2 : val B (l.take (m + 3)) = val B (l.take (m + 2)) + B ^ (m + 2) * wd l (m + 2) := zhw B l (m + 2)
 grind [List.take_of_length_le]
theorem z5g {B p K m : Nat} {l : List Nat} (hB : B = p * K) (hp : 0 < p) (hB0 : 0 < B) (hlt : za2 B l) (hl : l.length <= m + 3) :
  (wd l (m + 2) * B + wd l (m + 1)) * K + wd l m / p = val B l / (B ^ m * p) := by
 have h1 := zzfp (B := B) hl
 have h2 : val B (l.take m) < B ^ m := by
  have h := zg7 hB0 (zfm hlt m)
  grind [Nat.lt_of_lt_of_le, Nat.pow_le_pow_right]
 have h3 : val B l / B ^ m = wd l m + B * (wd l (m + 1) + B * wd l (m + 2)) := by
  rw [h1, Nat.add_mul_div_left _ _ (Nat.pow_pos hB0), Nat.div_eq_of_lt h2, ybw]
 rw [<- Nat.div_div_eq_div_mul, h3]; generalize wd l m = x
 have e : B * (wd l (m + 1) + B * wd l (m + 2)) = p * (K * (wd l (m + 2) * B + wd l (m + 1))) := by
  rw [<- ybj p, <- hB, ybh (wd l (m + 2)), yap]
 rw [e, Nat.add_mul_div_left _ _ hp, ybh K, yap]
end Go.Am
namespace Go.Proofs
open Go Go.Am
variable [zb1]
variable {t : Tr zav}
theorem z1w {la lb : List Nat} {pa pb : zab} {m top : Nat} {Q : zbo} (ha : RSl t 1 (zbc .u32 la) pa) (hb : RSl t 1 (zbc .u32 lb) pb) (hal : za2 BB la) (hbl : za2 BB lb) (hla : la.length = m + 3) (hm : m < 700000) (hlb : lb.length <= m + 3) (htop : la[m + 2]? = some top) (ht0 : 0 < top) (hle : val BB lb <= val BB la)
  (hQ : ∀ u0 u1 v0 v1 ev W, 0 < W -> val BB la / W < 18446744073709551616 -> val BB lb / W < 18446744073709551616 -> (v0 = 0 \/ zzi2 (val BB la / W) (val BB lb / W) u0 u1 v0 v1 ev) -> Q (.agg [.int .u64 (u0 : Int), .int .u64 (u1 : Int), .int .u64 (v0 : Int), .int .u64 (v1 : Int), .bool ev]) t) :
  Wc C30 F 170 [pa, pb] t Q := by
 have hBB := zky
 have htlt : top < 4294967296 := by have := zb0 hal htop; omega
 obtain ⟨s, hs, hs1, hs2, hs3⟩ := zzbx (t := t) htlt ht0
 obtain ⟨c, off, g1, g2⟩ := ha.idx zec htop
 have hK : BB = 2 ^ (32 - s) * 2 ^ s := by rw [<- Nat.pow_add, show 32 - s + s = 32 by omega, hBB]
 have hp : 0 < 2 ^ (32 - s) := Nat.pow_pos (by decide)
 have va := z5g hK hp zdt hal (m := m) (by omega)
 have vb := z5g hK hp zdt hbl hlb
 have hW : 0 < BB ^ m * 2 ^ (32 - s) := Nat.mul_pos (Nat.pow_pos zdt) hp
 have hdiv : val BB lb / (BB ^ m * 2 ^ (32 - s)) <= val BB la / (BB ^ m * 2 ^ (32 - s)) := Nat.div_le_div_right hle
 have hwt : wd la (m + 2) = top := by grind [wd]
 have wa1 := z1e zdt hal (m + 1)
 have wa0 := z1e zdt hal m
 have hz : wd la m / 2 ^ (32 - s) < 2 ^ s := ycu (by omega)
 rw [hBB] at va vb; have bigA : (wd la (m + 2) * 4294967296 + wd la (m + 1)) * 2 ^ s + wd la m / 2 ^ (32 - s) < 18446744073709551616 := by
  rw [hwt]; have q1 : top + 1 <= 2 ^ (32 - s) := by
   have : top * 2 ^ s < 2 ^ (32 - s) * 2 ^ s := by omega
   exact Nat.lt_of_mul_lt_mul_right this
  have q2 : (top * 4294967296 + wd la (m + 1)) + 1 <= 2 ^ (32 - s) * 4294967296 := by
   omega
  have q3 := ybi (2 ^ s) q2
  grind
 have hBB' : ∀ l, val 4294967296 l = val BB l := fun l => by rw [hBB]
 have hPP : (4294967296 : Nat) ^ m = BB ^ m := by rw [hBB]
 rw [hBB', hPP] at va vb; have zt5 : (wd lb (m + 2) * 4294967296 + wd lb (m + 1)) * 2 ^ s + wd lb m / 2 ^ (32 - s) < 18446744073709551616 := by
  grind
 have h1 := zzc2 (n := m + 3) (s := s) ha hal (by omega) (by omega) hs (yam (Nat.le_add_right _ _) bigA)
 have h2 := zzc2 (n := m + 3) (s := s) hb hbl (by omega) (by omega) hs (yam (Nat.le_add_right _ _) zt5)
 rw [show m + 3 - 1 = m + 2 by omega, show m + 3 - 2 = m + 1 by omega, show m + 3 - 3 = m by omega] at h1 h2; rw [va] at h1 bigA; rw [vb] at h2 zt5; generalize hw : BB ^ m * 2 ^ (32 - s) = W at *
 have e1 : ((m + 3 : Nat) : Int) - 1 = ((m + 2 : Nat) : Int) := by omega
 refine w170 ?_
 simp only [uI, uL, uE, uZ, uW, t170, wpT, ha.len, zaa, zak, zbl, hla, e1]; rw [zan (by omega) (by omega), g1, zaa, g2, zaa, zak, zaa, q176, hs3, zaa, zak, zaa, q182, h1, zaa, zak, zaa, q182, h2, zaa, zak, zaa]
 simp only [if_true]; exact zwe (P := Lsim (val BB la / W) (val BB lb / W)) bigA zt5 (fun x y u0 u1 u2 v0 v1 v2 ev hP hy k1 k2 => zze6 hP hy k1 k2) (fun x y u0 u1 u2 v0 v1 v2 ev hP => hQ u0 u1 v0 v1 ev W hW bigA zt5 hP.2.2.2.2) _ _ 0 1 0 0 0 1 false 0 0 0 0 false (zze7 _ _) (by omega) (by omega) hdiv (by omega) (by omega)
end Go.Proofs
namespace Go.Am
theorem zzc9 {A B X Y u0 u1 v0 v1 : Nat} {ev : Bool} (h1 : ev = true -> X + v0 * B = u0 * A /\ Y + u1 * A = v1 * B) (h2 : ev = false -> X + u0 * A = v0 * B /\ Y + v1 * B = u1 * A) (hA : A = v1 * X + v0 * Y) (hB : B = u1 * X + u0 * Y) : Nat.gcd X Y = Nat.gcd A B := by
 have gX := Nat.gcd_dvd_left X Y
 have gY := Nat.gcd_dvd_right X Y
 have gA := Nat.gcd_dvd_left A B
 have gB := Nat.gcd_dvd_right A B
 refine Nat.dvd_antisymm (Nat.dvd_gcd ?_ ?_) (Nat.dvd_gcd ?_ ?_)
 ·grind [Nat.dvd_add]
 ·grind [Nat.dvd_add]
 ·generalize Nat.gcd A B = g at *
  cases ev with
  | true =>
   grind [Nat.dvd_add_left]
  | false =>
   grind [Nat.dvd_add_left]
 ·generalize Nat.gcd A B = g at *
  cases ev with
  | true =>
   grind [Nat.dvd_add_left]
  | false =>
   grind [Nat.dvd_add_left]
theorem gcd_div {a b q r : Nat} (h : a = b * q + r) : Nat.gcd b r = Nat.gcd a b := by
 grind [Nat.mul_comm, Nat.gcd_mul_right_add_left]
theorem zznj {x y : Nat} : Nat.gcd y (x % y) = Nat.gcd x y := by
 rw [Nat.gcd_comm y (x % y), <- Nat.gcd_rec, Nat.gcd_comm]
theorem zys {B : Nat} {l : List Nat} (hB : 0 < B) (h : za2 B l) (hl : l.length <= 2) : val B l < B * B := by
 have h1 := zg7 hB h
 have h2 : B ^ l.length <= B ^ 2 := yao hB hl
 grind
end Go.Am
namespace Go.Proofs
open Go Go.Am
variable [zb1]
variable {t : Tr zav}
theorem zzcv {c : Prop} {d : Decidable c} {P Q : Prop} (h : c) (k : P) : @ite Prop c d P Q := by simp_all
theorem ite_no {c : Prop} {d : Decidable c} {P Q : Prop} (h : ¬ c) (k : Q) : @ite Prop c d P Q := by simp_all
theorem z21 {Q : zbo} : ∀ (y x : Nat), x < 18446744073709551616 -> y < 18446744073709551616 -> (∀ t' r rv, TLe t t' -> RSl t' 1 (zbc .u32 r) rv -> za2 BB r -> norm r -> val BB r = Nat.gcd x y -> Q rv t') -> jp 163 6 [.int .u64 (x : Int), .int .u64 (y : Int)] t Q := by
 have hBB := zky
 intro y; induction y using Nat.strongRecOn with
 | ind y ih =>
  intro x hx hy hQ; refine j163_6 ?_
  simp only [uE, zzjj, wpT, zwt]; by_cases h0 : y = 0
  ·subst h0
   rw [yaa (by simp)]
   simp only [q173]; grind [zzgi, z01, z54, z2h]
  ·rw [yab (by omega), zn5 (by omega), zaa, zak, zaa]
   have hm := ycy x (show 0 < y by omega)
   grind [zznj]
theorem zzbz {l : List Nat} {v : zab} (hv : RSl t 1 (zbc .u32 l) v) (hl : l.length <= 2) (hlt : za2 BB l) : pvC C30 F 172 [v] t = some (.int .u64 ((val BB l : Nat) : Int)) := by
 have hBB := zky
 grind [zzmq]
theorem zzej {la lb : List Nat} {pa pb : zab} {Q : zbo} (ha : RSl t 1 (zbc .u32 la) pa) (hb : RSl t 1 (zbc .u32 lb) pb) (hal : za2 BB la) (hbl : za2 BB lb) (hla : la.length <= 2) (hlb : lb.length <= 2)
  (hQ : ∀ t' r rv, TLe t t' -> RSl t' 1 (zbc .u32 r) rv -> za2 BB r -> norm r -> val BB r = Nat.gcd (val BB la) (val BB lb) -> Q rv t') : jp 163 33 [pa, pb] t Q := by
 have hBB := zky
 have b1 := zys zdt hal hla
 have b2 := zys zdt hbl hlb
 refine zzm5 ?_
 simp only [uE, z9x, wpT, q172, zzbz ha hla hal, zzbz hb hlb hbl, zaa, zak]; grind [z21]
theorem zzek {Q : zbo} {t0 : Tr zav} {G : Nat} (hQ : ∀ t' r rv, TLe t0 t' -> RSl t' 1 (zbc .u32 r) rv -> za2 BB r -> norm r -> val BB r = G -> Q rv t') : ∀ (n : Nat) (la lb : List Nat) (pa pb : zab) (t : Tr zav), val BB la + val BB lb = n -> TLe t0 t -> RSl t 1 (zbc .u32 la) pa -> RSl t 1 (zbc .u32 lb) pb -> za2 BB la -> za2 BB lb -> norm la -> norm lb -> val BB lb <= val BB la -> la.length < 700000 -> Nat.gcd (val BB la) (val BB lb) = G -> jp 163 2 [pa, pb] t Q := by
 have hBB := zky
 have hB1 : 1 < BB := by omega
 intro n; induction n using Nat.strongRecOn with
 | ind n ih =>
  intro la lb pa pb t hn ht ha hb hal hbl han hbn hle hlen hg; have hlb : lb.length <= la.length := zeq hB1 hal hbn hle
  refine j163_2 ?_
  simp only [uI, uG, uX, zzjk, wpT, hb.len, zaa, zak, zbl, zcz]; by_cases h2 : 2 < lb.length
  ·rw [yab (by omega)]
   have hb0 : lb ≠ [] := by grind
   have hbpos : 0 < val BB lb := by
    rcases yav (val BB lb) with h | h
    ·exact absurd (z2i zdt hbn h) hb0
    ·exact h
   obtain ⟨m, hm⟩ : ∃ m, la.length = m + 3 := ⟨la.length - 3, by omega⟩
   obtain ⟨top, htop⟩ := getElem?_of_lt (l := la) (i := m + 2) (by omega)
   have ha0 : la ≠ [] := by grind
   have ht0 : 0 < top := by
    have := han ha0
    grind
   rw [q170]; refine z1w ha hb hal hbl hm (by omega) (by omega) htop ht0 hle fun u0 u1 v0 v1 ev W hW hA hB hL => ?_
   have eG : zt6 [(.int .u64 0), (.int .u64 0), (.int .u64 0), (.int .u64 0), (.bool false)] (.agg [.int .u64 (u0 : Int), .int .u64 (u1 : Int), .int .u64 (v0 : Int), .int .u64 (v1 : Int), .bool ev]) = some (cellsOf [.int .u64 (u0 : Int), .int .u64 (u1 : Int), .int .u64 (v0 : Int), .int .u64 (v1 : Int), .bool ev]) := zg4 rfl
   rw [eG]; simp only [zaa, cellsOf, zznd, zvl, yaz, yba, if_true, zqr]; by_cases hv0 : v0 = 0
   ·refine zzcv (zg9.2 (by omega)) ?_
    rw [q165]; refine zst ha hb hlen hal hbl han hbn hb0 fun t' q r qv rv k1 k2 k3 k4 k5 k6 k7 k8 k9 => ?_
    simp only [zb3, zab.asTup, zad, zbs, yaz, yba, zaa]; refine ih (val BB lb + val BB r) (by omega) lb r pb rv t' rfl (ht.trans k1) (hb.mono k1) k3 hbl k5 hbn k7 (by omega) (by omega) ?_
    grind [gcd_div]
   ·refine ite_no (fun e => absurd (zg9.1 e) (by omega)) ?_
    rcases hL with h | hL
    ·omega
    obtain ⟨s1, s2, s3, s4⟩ := z3r hA hB hL
    have eA : val BB la = W * (val BB la / W) + val BB la % W := (ych _ _).symm
    have eB : val BB lb = W * (val BB lb / W) + val BB lb % W := (ych _ _).symm
    obtain ⟨X, Y, l1, l2, l3, l4, l5, l6⟩ := lehmer eA eB (ycy _ hW) (ycy _ hW) hL
    have hgg := zzc9 l1 l2 l4 l5
    have hXA : X <= val BB la := by
     have : X <= v1 * X := yan _ (by
      obtain ⟨x, y, _, _, _, _, _, _, w2, w3⟩ := hL; omega)
     omega
    cases ev with
    | true =>
     obtain ⟨m1, m2⟩ := l1 rfl
     simp only [if_true]; rw [q171]; refine zhk ha hb hal hbl s1 s3 hlen (by omega) (by omega) fun t1 r1 rv1 k1 k2 k3 k4 k5 => ?_
     rw [q171]; refine zhk (hb.mono k1) (ha.mono k1) hbl hal s4 s2 (by omega) hlen (by omega) fun t2 r2 rv2 j1 j2 j3 j4 j5 => ?_
     have e1 : val BB r1 = X := by omega
     have e2 : val BB r2 = Y := by omega
     refine ih (val BB r1 + val BB r2) (by omega) r1 r2 rv1 rv2 t2 rfl (ht.trans (k1.trans j1)) (k2.mono j1) j2 k3 j3 k4 j4 (by omega) ?_ (by grind)
     have := zeq hB1 hal k4 (by omega)
     omega
    | false =>
     obtain ⟨m1, m2⟩ := l2 rfl
     simp only [if_true, ybq, if_false]; rw [q171]; refine zhk hb ha hbl hal s3 s1 (by omega) hlen (by omega) fun t1 r1 rv1 k1 k2 k3 k4 k5 => ?_
     rw [q171]; refine zhk (ha.mono k1) (hb.mono k1) hal hbl s2 s4 hlen (by omega) (by omega) fun t2 r2 rv2 j1 j2 j3 j4 j5 => ?_
     have e1 : val BB r1 = X := by omega
     have e2 : val BB r2 = Y := by omega
     refine ih (val BB r1 + val BB r2) (by omega) r1 r2 rv1 rv2 t2 rfl (ht.trans (k1.trans j1)) (k2.mono j1) j2 k3 j3 k4 j4 (by omega) ?_ (by grind)
     have := zeq hB1 hal k4 (by omega)
     omega
  ·rw [yaa (by omega)]
   simp only [zg9]; by_cases h0 : lb.length = 0
   ·rw [yab (by omega)]
    have : lb = [] := ycc.1 h0
    subst this; refine hQ t la pa ht ha hal han ?_
    rw [<- hg]; simp only [val]; rw [Nat.gcd_zero_right]
   ·rw [yaa (by omega)]
    simp only [ha.len, zaa, zak, zbl, zcz]; have hb0 : lb ≠ [] := by simp_all
    by_cases h3 : 2 < la.length
    ·rw [yab (by omega), q165]
     refine zst ha hb hlen hal hbl han hbn hb0 fun t' q r qv rv k1 k2 k3 k4 k5 k6 k7 k8 k9 => ?_
     simp only [zb3, zab.asTup, zad, zbs, yaz, yba, zaa]; have := zeq hB1 hbl k7 (Nat.le_of_lt k9)
     refine zzej (hb.mono k1) k3 hbl k5 (by omega) (by omega) fun t2 r2 rv2 j1 j2 j3 j4 j5 => ?_
     exact hQ t2 r2 rv2 (ht.trans (k1.trans j1)) j2 j3 j4 (by grind [gcd_div])
    ·rw [yaa (by omega)]
     refine zzej ha hb hal hbl (by omega) (by omega) fun t2 r2 rv2 j1 j2 j3 j4 j5 => ?_
     exact hQ t2 r2 rv2 (ht.trans j1) j2 j3 j4 (by omega)
theorem cd_ok {la lb : List Nat} {pa pb : zab} {Q : zbo} (ha : RSl t 1 (zbc .u32 la) pa) (hb : RSl t 1 (zbc .u32 lb) pb) (hal : za2 BB la) (hbl : za2 BB lb) (han : norm la) (hbn : norm lb) (hla : la.length < 700000) (hlb : lb.length < 700000)
  (hQ : ∀ t' r rv, TLe t t' -> RSl t' 1 (zbc .u32 r) rv -> za2 BB r -> norm r -> val BB r = Nat.gcd (val BB la) (val BB lb) -> Q rv t') : Wc C30 F 163 [pa, pb] t Q := by
 have hBB := zky
 have hB1 : 1 < BB := by omega
 have hlt := zzee hB1 hal hbl han hbn
 refine w163 ?_
 simp only [uI, t163, wpT, q169, zzkz (by omega) ha hb, zaa, zak, zcz]
 by_cases hc : zxt la lb < 0
 ·rw [yab hc]
  have := hlt.1 hc
  exact zzek hQ _ lb la pb pa t rfl (TLe.refl _) hb ha hbl hal hbn han (by omega) hlb (Nat.gcd_comm _ _)
 ·rw [yaa hc]
  have : val BB lb <= val BB la := Nat.le_of_not_lt fun h => hc (hlt.2 h)
  exact zzek hQ _ la lb pa pb t rfl (TLe.refl _) ha hb hal hbl han hbn this hla rfl
end Go.Proofs
namespace Go.Proofs
open Go Go.Am
variable [zb1]
variable {t : Tr zav}
theorem znu {neg : Bool} {l : List Nat} (h : zhv neg l = true) : norm l := by
 intro hne; grind [zhv]
theorem zx2 {l : List zej} {v : zab} (hv : RSl t 2 (l.map zej.d) v) (hb : ∀ w ∈ l, w.limbs.length < 1125899906842624) (hn : l.length < 1125899906842624) : ∀ (k i : Nat), i + k = l.length -> jp 162 2 [v, .int .i64 (l.length : Int), .int .i64 (i : Int)] t (fun r m => r = .bool ((l.drop i).all fun w => zhv w.neg w.limbs) /\ m = t) := by
 intro k; induction k with
 | zero =>
  intro i hi; refine zzkh ?_
  simp only [uB, uG, uOn, uIn, uFa, uTr, uZ, uM0, uA0, z9y, wpT, zcz]; simp_all
 | succ k ih =>
  intro i hi; have hlt : i < l.length := by omega
  have hx : l[i]? = some l[i] := ybd hlt
  obtain ⟨b, off, cs, g1, g2, _, _, g5⟩ := zvq.at sl229 (by simp) hv (i := i) (d := l[i].d) (by simp [hx])
  obtain ⟨u, rfl, hu⟩ := z4j g5
  have hv1 := zlu (neg := l[i].neg) (hb _ (ycj hlt)) hu
  refine zzkh ?_
  simp only [uB, uG, uOn, uIn, uFa, uTr, uZ, uM0, uA0, z9y, wpT, zcz]; rw [yab (by omega), g1, zaa, g2, zzlj, zaa, ztc g5 (zej.zs _)]
  simp only [zaa, cellsOf, zvl, z8v, yaz, yba]; have hone : zfh zab.one [.bool l[i].neg, u] = true := by
   show (bif zab.one (.bool l[i].neg) then (bif zab.one u then true else false) else false) = true
   rw [hu.one]; rfl
  refine zzcv hone ?_
  rw [q123, hv1]; simp only [zaa, ze0, zwu]; rw [ybl hlt, ycg]
  cases hq : zhv l[i].neg l[i].limbs with
  | false => simp
  | true =>
   simp only [ycn, Bool.true_eq_false, if_false]; rw [zan (by omega) (by omega)]
   exact ih (i + 1) (by omega)
theorem ztb {l : List zej} {v : zab} (hv : RSl t 2 (l.map zej.d) v) (hb : ∀ w ∈ l, w.limbs.length < 1125899906842624) (hn : l.length < 1125899906842624) : pvC C30 F 162 [v] t = some (.bool (l.all fun w => zhv w.neg w.limbs)) := by
 refine zbg.2 (w162 ?_)
 simp only [uI, uZ, t162, wpT, hv.len, zaa, zak, ybf]; have := zx2 hv hb hn l.length 0 (by omega)
 simp_all
theorem zzks {n d : zej} {u v : zab} {Q : zbo} (hu : RSl t 1 (zf7 n.limbs) u) (hv : RSl t 1 (zf7 d.limbs) v) (hn : n.limbs.length < 700000) (hd : d.limbs.length < 700000) (hnl : za2 65536 n.limbs) (hdl : za2 65536 d.limbs) (hnv : zhv n.neg n.limbs = true) (hdv : zhv d.neg d.limbs = true)
  (hQ : ∀ t' g rv, TLe t t' -> RSl t' 1 (zf7 g) rv -> za2 65536 g -> norm g -> val 65536 g = Nat.gcd (val 65536 n.limbs) (val 65536 d.limbs) -> Q (.tup [.agg [.bool false, rv], .int .i64 0]) t') : Wc C30 F 155 [.agg [.bool n.neg, u], .agg [.bool d.neg, v]] t Q := by
 have hBB := zky
 refine w155 ?_
 simp only [uB, uG, uOn, uZ, uM0, uA0, t155, wpT]; intro b hb hbase; obtain ⟨t1, g1, g2, g3, g4⟩ := zld (C := C30) (T := 229) (el := 43) (sz := 2) (n := 2) (cl := [[.bool n.neg, u], [.bool d.neg, v]]) (ps := [(0, .agg [.bool n.neg, u]), (1, .agg [.bool d.neg, v])]) zzlm rfl ty43 rfl rfl (by decide) rfl (fun i cs hi => by
  grind) rfl hb
 rw [g1, zaa]; have hw : RSl t1 2 ([n, d].map zej.d) (.slice b 0 2 2) := ⟨_, g2, by
  simp only [ycm, List.map_nil, zcg, zdl]; refine ⟨_, _, rfl, ?_, _, _, rfl, ?_, rfl⟩
  ·unfold zej.d
   rw [zql]; refine ⟨[[.bool n.neg], [u]], rfl, ?_⟩
   simp only [zcg, zdl, zx5, z79]; exact ⟨_, _, rfl, rfl, _, _, rfl, ⟨u, rfl, hu.mono g3⟩, rfl⟩
  ·unfold zej.d
   rw [zql]; refine ⟨[[.bool d.neg], [v]], rfl, ?_⟩
   simp only [zcg, zdl, zx5, z79]; exact ⟨_, _, rfl, rfl, _, _, rfl, ⟨v, rfl, hv.mono g3⟩, rfl⟩⟩
 have hall := ztb hw (fun w hw => by
  grind) (by simp)
 rw [q162, hall]; simp only [zaa, ze0, zwu, ycg, yck, hnv, hdv, Bool.and_self, Bool.true_eq_false, if_false]; rw [q164]; refine zwp (hu.mono g3) (by omega) hnl fun t2 v2 k1 k2 => ?_
 rw [yab hv.same, q164]; refine zwp ((hv.mono g3).mono k1) (by omega) hdl fun t3 v3 m1 m2 => ?_
 have an := zie hnl
 have ad := zie hdl
 rw [<- hBB] at an ad; rw [q163]; refine cd_ok (k2.mono m1) m2 an ad (zjo (znu hnv)) (zjo (znu hdv)) (by rw [zdx]; omega) (by rw [zdx]; omega) fun t4 r rv p1 p2 p3 p4 p5 => ?_
 rw [hBB] at p3; have vn : ∀ l, val BB (zer l) = val 65536 l := fun l => by grind [zrd]
 rw [vn, vn] at p5; have hrl : r.length < 400000 := by
  have hB1 : 1 < BB := by omega
  rcases yav (val 65536 n.limbs) with h0 | h0
  ·rw [h0, Nat.gcd_zero_left, <- vn] at p5
   have := zeq hB1 ad p4 (Nat.le_of_eq p5)
   grind [zdx]
  ·have h1 := Nat.gcd_le_left (val 65536 d.limbs) h0
   rw [<- p5, <- vn] at h1; have := zeq hB1 an p4 h1
   grind [zdx]
 rw [q141]; refine zrg p2 hrl p3 fun t5 v5 s1 s2 => ?_
 rw [zji p4] at s2 ⊢
 have eG : zt6 [(.bool false), .nilslice] (.agg [.bool (if r = [] then false else false), v5]) = some (cellsOf [.bool (if r = [] then false else false), v5]) := zg4 (by
  show (true && (zzh0 .nilslice v5 && true)) = true
  rw [zsl s2]; rfl)
 rw [eG]; have hone : zfh zab.one [.bool false, v5] = true := by
  show (bif zab.one (.bool false) then (bif zab.one v5 then true else false) else false) = true
  rw [s2.one]; rfl
 simp only [zaa, cellsOf, zvl, z8v, yaz, yba, ite_self, hone, if_true]; refine hQ t5 (zcu (zbz r)) v5 (g3.trans (k1.trans (m1.trans (p1.trans s1)))) s2 (zcx (zhn p3)) (zdy _) ?_
 rw [zet, <- p5, zj2, hBB]
end Go.Proofs
namespace Go.Am
def zf9.fit (f : zf9) : Prop := f.ok /\ za2 65536 f.n.limbs /\ za2 65536 f.d.limbs
def ztn.fit (v : ztn) : Prop := v.kind < 256 /\ v.f.fit /\ -9223372036854775808 <= v.i /\ v.i < 9223372036854775808
mutual
def zg5.fit : zg5 -> Prop
 | .mk op name v args => op < 256 /\ name.length < zt5 /\ (∀ c ∈ name, c < 256) /\ v.fit /\ args.length < zt5 /\ zg5.fits args
def zg5.fits : List zg5 -> Prop
 | [] => True
 | x :: l => x.fit /\ zg5.fits l
end
def i64 (n : Int) : Prop := -9223372036854775808 <= n /\ n < 9223372036854775808
def XRow.fit (r : XRow) : Prop := i64 r.a /\ i64 r.b /\ i64 r.known /\ r.f.fit
def zvo.fit (x : zvo) : Prop := x.name.length < zt5 /\ x.rows.length < zt5 /\ ∀ r ∈ x.rows, r.fit
def XDef.fit (x : XDef) : Prop := x.name.length < zt5 /\ x.kind < 256
def zpp.fit (x : zpp) : Prop := x.name.length < zt5 /\ x.label.length < zt5 /\ i64 x.from_ /\ i64 x.to /\ i64 x.known /\ x.when_.fit /\ x.then_.fit
structure zziz.fit (p : zziz) : Prop where
 name : p.name.length < zt5
 ndefs : p.defs.length < zt5
 ntables : p.tables.length < zt5
 nclauses : p.clauses.length < zt5
 defs : ∀ d ∈ p.defs, d.fit
 tables : ∀ d ∈ p.tables, d.fit
 clauses : ∀ d ∈ p.clauses, d.fit
end Go.Am
namespace Go.Proofs
open Go Go.Am
variable [zb1]
variable {t : Tr zav}
def zzcw (w : zej) : Bool := !w.neg && decide (w.limbs = [1])
def zym (f : zf9) : Bool := decide (f.n.limbs.length <= 256) && decide (f.d.limbs.length <= 256) && zhv f.n.neg f.n.limbs && zhv f.d.neg f.d.limbs && !f.d.neg && decide (f.d.limbs ≠ []) && (zzcw f.d || decide (Nat.gcd (val 65536 f.n.limbs) (val 65536 f.d.limbs) = 1))
theorem zbu {a b : Int} : iLt a b = decide (a < b) := by
 grind [zcz]
theorem zmb {a b : Int} : iLe a b = decide (a <= b) := by
 grind [zew]
theorem zc0 {a b : Int} : iEq a b = decide (a = b) := by
 grind [zg9]
theorem zv2 {f : zf9} {u v : zab} (hu : RSl t 1 (zf7 f.n.limbs) u) (hv : RSl t 1 (zf7 f.d.limbs) v) (hf : zf9.fit f) : pvC C30 F 145 [.agg [.bool f.n.neg, u, .bool f.d.neg, v]] t = some (.bool (zym f)) := by
 obtain ⟨h1, h2, h3⟩ := hf
 unfold zf9.ok zt5 at h1; have c1 : pvC C30 F 144 [.agg [.bool f.n.neg, u, .bool f.d.neg, v]] t = some (.bool (!(decide (f.n.limbs.length <= 256) && decide (f.d.limbs.length <= 256)))) := by
  refine zbg.2 (w144 ?_)
  simp only [uI, uTr, t144, wpT, hu.len, hv.len, zaa, zak, zgr]; grind [zcz]
 have c2 := zlu (neg := f.n.neg) (by omega) hu
 have c3 := zlu (neg := f.d.neg) (by omega) hv
 have c4 : pvC C30 F 157 [.agg [.bool f.n.neg, u, .bool f.d.neg, v]] t = some (.bool (zzcw f.d)) := by
  refine zbg.2 (w157 ?_)
  simp only [uB, t157, wpT, q158, z48 hv, zaa, ze0]; (first | exact ⟨rfl, rfl⟩ | exact ⟨rfl, trivial⟩ | trivial)
 refine zzh (w145 ?_)
 simp only [uI, uB, uG, uFa, uTr, uA0, t145, wpT, q144, c1, q123, c2, c3, q157, c4, zaa, ze0, hv.len, zak, zgr, zg9, zwu]; unfold zym; by_cases g1 : f.n.limbs.length <= 256
 ·by_cases g2 : f.d.limbs.length <= 256
  ·simp only [g1, g2, decide_true, ycn, Bool.not_true, ybq, if_false]
   cases hn : zhv f.n.neg f.n.limbs with
   | false => simp
   | true =>
    cases hd : zhv f.d.neg f.d.limbs with
    | false => simp
    | true =>
     simp only [Bool.true_eq_false, if_false, ycn]
     cases hg : f.d.neg with
     | true => simp
     | false =>
      simp only [ybq, if_false, ycl, ycn]; by_cases h0 : f.d.limbs = []
      ·simp_all
      ·have : f.d.limbs.length ≠ 0 := fun e => h0 (ycc.1 e)
       rw [yaa (by omega)]
       simp only [h0, ne_eq, not_false_eq_true, decide_true, ycn]
       cases ho : zzcw f.d with
       | true => simp
       | false =>
        simp only [ybq, if_false, Bool.false_or]; rw [q142]; refine w142 ?_
        simp only [uI, uG, uOn, uX, uM0, uA0, t142, wpT, q155]; have hn' := hn
        have hd' := hd
        rw [hg] at hd'
        refine zzks (n := f.n) (d := ⟨false, f.d.limbs⟩) hu hv (by omega) (by grind) h2 h3 hn' hd' fun t' g rv k1 k2 k3 k4 k5 => ?_
        have eG : zt6 [(.bool false), .nilslice] (.agg [.bool false, rv]) = some (cellsOf [.bool false, rv]) := zg4 (by
         show (true && (zzh0 .nilslice rv && true)) = true
         rw [zsl k2]; rfl)
        have hone : zfh zab.one [.bool false, rv] = true := by
         show (bif zab.one (.bool false) then (bif zab.one rv then true else false) else false) = true
         rw [k2.one]; rfl
        simp only [zb3, zab.asTup, zad, zbs, yaz, yba, zaa, zak, eG, cellsOf, zvl, z8v, hone, if_true]; rw [q158, z48 k2]; simp only [zaa, ze0, ycl, ycn]
        refine ⟨?_, k1⟩
        congr 1
        rw [decide_eq_decide, <- k5]; constructor
        ·intro e; subst e; rfl
        ·intro e
         exact z4v (B := 65536) (by decide) k3 (fun x hx => by grind) k4 (fun _ => by simp) (by rw [e]; rfl)
  grind
 grind
theorem z8s {f : zf9} {u v : zab} (hu : RSl t 1 (zf7 f.n.limbs) u) (hv : RSl t 1 (zf7 f.d.limbs) v) (hf : zf9.fit f) : pvC C30 F 126 [.agg [.bool f.n.neg, u, .bool f.d.neg, v]] t = some (.bool (zym f)) := by
 refine zbg.2 (w126 ?_)
 simp only [uB, t126, wpT, q145, zv2 hu hv hf, zaa, ze0, if_true]; simp_all
end Go.Proofs
namespace Go.Proofs
open Go Go.Am
variable [zb1]
variable {t : Tr zav}
theorem zj6 {a b : List Nat} (h : a.length + b.length < 4611686018427387904) : zi8 a b = some (.str (a ++ b)) := by
 unfold zi8; rw [za1, za1, zdk.2 h, zca]; rfl
theorem zqp {s : List Nat} {k : Nat} (h : k <= s.length) : zcb C30 9 H0A (.str s) (some (.int .i64 (k : Int))) none = some (.str (s.drop k)) := by
 unfold zcb zga; rw [ty9, zad]; simp only [zab.asStr]; rw [show zcy.isString .string = true from rfl, zar]; unfold zni zfj zom zlp; grind [zjq, zad, zab.asNat, zab.asInt, za1, zg3, zar, zfz, ze3, List.take_length]
theorem zj4 {s : List Nat} {k : Nat} (h : k <= s.length) : zcb C30 9 H0A (.str s) none (some (.int .i64 (k : Int))) = some (.str (s.take k)) := by
 unfold zcb zga; rw [ty9, zad]; simp only [zab.asStr]; rw [show zcy.isString .string = true from rfl, zar]; unfold zni zfj zom zlp; have e : zjq (k : Int) = some k := rfl
 simp only [zad, zab.asNat, zab.asInt, e, za1, zg3.2 h, zg3.2 (yaw _), zar, zfz, ze3, ycr]
end Go.Proofs
namespace Go.Am
open Go Go.RowKit
section
variable {t tf tf0 : Tr zav} {C : Ctx}
mutual
theorem RD.ones : ∀ (d : D) (cs : List zab), RD t d cs -> ∀ a ∈ cs, zab.one a = true
 | .int _ _, cs, h, a, ha => by rw [RD] at h; subst h; simp at ha; subst ha; rfl
 | .bool _, cs, h, a, ha => by rw [RD] at h; subst h; simp at ha; subst ha; rfl
 | .str _, cs, h, a, ha => by rw [RD] at h; subst h; simp at ha; subst ha; rfl
 | .sl sz l, cs, h, a, ha => by
  rw [z79] at h; obtain ⟨v, rfl, h⟩ := h
  simp at ha; subst ha; exact h.one
 | .st l, cs, h, a, ha => by
  rw [zql] at h; obtain ⟨cl, rfl, h⟩ := h
  exact RDs.ones l cl h a ha
theorem RDs.ones : ∀ (l : List D) (cl : List (List zab)), RDs t l cl -> ∀ a ∈ cl.flatten, zab.one a = true
 | [], cl, h, a, ha => by grind [RDs]
 | d :: l, cl, h, a, ha => by
  rw [RDs] at h; obtain ⟨c, r, rfl, h1, h2⟩ := h
  rw [yas, yaf] at ha; rcases ha with ha | ha
  ·exact RD.ones d c h1 a ha
  ·exact RDs.ones l r h2 a ha
end
theorem RD.all {d : D} {cs : List zab} (h : RD t d cs) : zfh zab.one cs = true := by
 grind [zc5, RD.ones]
end
end Go.Am
namespace Go.Proofs
open Go Go.Am
def zia (n : Nat) : Bool := (decide (65 <= n) && decide (n <= 90)) || (decide (97 <= n) && decide (n <= 122))
def zba (n : Nat) : Bool := decide (48 <= n) && decide (n <= 57)
def zcr (n : Nat) : Bool := zia n || zba n || decide (n = 95)
def zit (p : Nat -> Bool) (s : List Nat) : List Nat := s.takeWhile p
def resW : Nat -> List Nat
 | 2 => [32, 116, 111, 32, 105, 115, 32, 97, 116, 32, 105, 102, 32, 111, 114, 32, 117, 112, 32]
 | 3 => [32, 100, 101, 102, 32, 114, 111, 119, 32, 111, 110, 101, 32, 116, 119, 111, 32, 101, 110, 100, 32, 111, 102, 102, 32, 104, 97, 115, 32, 109, 105, 110, 32, 109, 97, 120, 32, 97, 110, 100, 32, 110, 111, 116, 32]
 | 4 => [32, 112, 108, 97, 110, 32, 102, 97, 99, 116, 32, 102, 114, 111, 109, 32, 119, 104, 101, 110, 32, 116, 104, 101, 110, 32, 100, 97, 116, 101, 32, 100, 97, 121, 115, 32, 116, 114, 117, 101, 32, 108, 111, 111, 107, 32, 98, 101, 115, 116, 32, 103, 114, 111, 119, 32, 100, 111, 119, 110, 32, 99, 101, 105, 108, 32, 104, 97, 108, 102, 32, 101, 118, 101, 110, 32]
 | 5 => [32, 116, 97, 98, 108, 101, 32, 107, 110, 111, 119, 110, 32, 116, 114, 117, 116, 104, 32, 109, 111, 110, 101, 121, 32, 102, 97, 108, 115, 101, 32, 109, 105, 110, 117, 115, 32, 116, 111, 100, 97, 121, 32, 114, 111, 117, 110, 100, 32, 115, 116, 97, 114, 116, 32, 102, 108, 111, 111, 114, 32]
 | 6 => [32, 99, 108, 97, 117, 115, 101, 32, 110, 117, 109, 98, 101, 114, 32, 109, 111, 110, 116, 104, 115, 32]
 | 7 => [32, 98, 101, 116, 119, 101, 101, 110, 32, 115, 101, 114, 118, 105, 99, 101, 32]
 | _ => []
def zzat (s : List Nat) : Bool := decide (2 <= s.length) && decide (s.length <= 7) && zem (zit zia s) s && zf5 ([32] ++ s ++ [32]) (resW s.length)
def nameL (s : List Nat) : Bool := match s with
 | [] => false
 | x :: r => decide ((x :: r).length <= 24) && zia x && zem (zit zcr (x :: r)) (x :: r) && !zzat (x :: r)
structure Tok where
 kind : Nat
 text : List Nat
 line : Nat
 col : Nat
def ze6 (s : List Nat) : Nat := s.foldl (fun n b => n * 10 + (b - 48)) 0
def zgb (i b : Nat) : Bool := if i = 4 \/ i = 7 then decide (b = 45) else zba b
def zdf (s : List Nat) : Bool := decide (10 <= s.length) && (List.range 10).all fun i => zgb i (s.getD i 0)
def zzb8 (y : Nat) : Bool := decide (y % 4 = 0) && (decide (y % 100 ≠ 0) || decide (y % 400 = 0))
def zzb6 : List Nat := [31, 28, 31, 30, 31, 30, 31, 31, 30, 31, 30, 31]
def zle (y m : Nat) : Nat := if m < 1 \/ 12 < m then 0 else if m = 2 /\ zzb8 y = true then 29 else zzb6.getD (m - 1) 0
def zh5 (y : Nat) : Nat := y / 4 - y / 100 + y / 400
def zoz (y : Nat) : Nat -> Nat
 | 0 => 0
 | k + 1 => zoz y k + zle y (k + 1)
def zh1 (m : Nat) : Nat := 365 * (m / 12) + zh5 (1899 + m / 12) - zh5 1899 + zoz (1900 + m / 12) (m % 12)
def zznz (y m d : Nat) : Option Nat := if y < 1900 \/ 2079 < y \/ d < 1 \/ zle y m < d then none else if zh1 (12 * (y - 1900) + m - 1) + d - 1 < 65536 then some (zh1 (12 * (y - 1900) + m - 1) + d - 1) else none
def zzid (s : List Nat) : Option Nat := zznz (ze6 (s.take 4)) (ze6 ((s.take 7).drop 5)) (ze6 (s.drop 8))
def zd8 (s : List Nat) : Bool := decide (1 < s.length) && decide (s.head? = some 48)
def z2u (b : Nat) : Bool := [40, 41, 44, 43, 45, 42, 47, 60, 61].contains b
inductive TR where
 | bad (e : Nat)
 | tok (kind : Nat) (text : List Nat)
def zbh (s : List Nat) : List Nat := zit zba s
def zbk (s : List Nat) : List Nat := if s[(zbh s).length]? = some 47 then zit zba (s.drop ((zbh s).length + 1)) else []
def zb7 (s : List Nat) : Nat := if zbk s = [] then (zbh s).length else (zbh s).length + 1 + (zbk s).length
def zdn (s : List Nat) (n : Nat) : Bool := match s[n]? with | some b => zcr b | none => false
def zdm (s : List Nat) : Bool := decide (200 < zb7 s) || zdn s (zb7 s) || zd8 (zbh s) || zd8 (zbk s) || decide (zbk s = [48])
def zgn (s : List Nat) : Bool := (decide (10 < s.length) && zdn s 10) || decide (zzid (s.take 10) = none)
def zc8 (s : List Nat) : TR :=
 match s with
 | [] => .bad 110
 | b :: _ =>
  if zia b then (if 24 < (zit zcr s).length then .bad 111 else .tok 1 (zit zcr s))
  else if zba b && zdf s then (if zgn s then .bad 113 else .tok 3 (s.take 10))
  else if zba b then (if zdm s then .bad 112 else .tok 2 (s.take (zb7 s)))
  else if z2u b then .tok 4 [b] else .bad 110
inductive LR where
 | ok (l : List Tok)
 | er (e line col : Nat)
def LR.cons (t : Tok) : LR -> LR
 | .ok l => .ok (t :: l)
 | .er e a b => .er e a b
def endT (p : Nat × Nat) : Tok := ⟨5, [], p.1, p.2⟩
def LR.close (op : Option (Nat × Nat)) (r : LR) : LR := match op with | some p => r.cons (endT p) | none => r
def zed : Nat -> List Nat -> Nat -> Nat -> Option (Nat × Nat) -> LR
 | 0, _, _, _, _ => .ok []
 | _ + 1, [], _, _, op => LR.close op (.ok [])
 | k + 1, b :: r, ln, cl, op =>
  if b = 10 then LR.close op (zed k r (ln + 1) 1 none)
  else if b = 32 \/ b = 9 then zed k r ln (cl + 1) op
  else if b = 35 then zed k ((b :: r).drop (zit (fun x => decide (x ≠ 10)) (b :: r)).length) ln (cl + (zit (fun x => decide (x ≠ 10)) (b :: r)).length) op
  else match zc8 (b :: r) with
   | .bad e => .er e ln cl
   | .tok kd w => LR.cons ⟨kd, w, ln, cl⟩ (zed k ((b :: r).drop w.length) ln (cl + w.length) (some (ln, cl + w.length)))
def lexN (s : List Nat) : LR := zed (s.length + 1) s 1 1 none
end Go.Proofs
