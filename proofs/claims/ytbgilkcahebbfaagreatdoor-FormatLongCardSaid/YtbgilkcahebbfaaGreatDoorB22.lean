/- difference: u a - v b. -/
import Derived.Test.YtbgilkcahebbfaaGreatDoorB21
set_option linter.all false
noncomputable section
set_option maxRecDepth 100000
namespace Go.Proofs
open Go Go.Am
variable [zcb]
variable {t : Tr zak}
theorem z3j {x u a : Nat} (hx : x <= u) (hu : u < 4294967296) (ha : a < 4294967296) : zag .u64 ((x : Int) + zag .u64 ((u : Int) * zag .u64 (a : Int))) = ((x + u * a : Nat) : Int) := by
 have h : u * a <= 4294967295 * 4294967295 := ycc (by omega) (by omega)
 rw [za3 (n := (a : Int)) (by omega) (by omega), <- Int.natCast_mul]
 generalize u * a = z at h ⊢
 rw [za3 (n := (z : Int)) (by omega) (by omega), za3 (by omega) (by omega)]
 omega
theorem z6x {la lb : List Nat} {pa pb w : zab} {u v x y bo n i : Nat} {Q : zao} (ha : RSl t 1 (za2 .u32 la) pa) (hb : RSl t 1 (za2 .u32 lb) pb) (hal : zax BB la) (hbl : zax BB lb) (hu : u < 4294967296) (hv : v < 4294967296) (hx : x <= u) (hy : y <= v) (hi : i < n)
  (h : jp 206 21 [.int .u64 (u : Int), pa, .int .u64 (v : Int), pb, w, .int .u64 ((x + u * wd la i : Nat) : Int), .int .u64 ((y + v * wd lb i : Nat) : Int), .int .u32 (bo : Int), .int .i64 (i : Int), .int .i64 (n : Int), .int .i64 (i : Int)] t Q) :
  jp 206 2 [.int .u64 (u : Int), pa, .int .u64 (v : Int), pb, w, .int .u64 (x : Int), .int .u64 (y : Int), .int .u32 (bo : Int), .int .i64 (n : Int), .int .i64 (i : Int)] t Q := by
 have hBB := zkg
 have second : jp 206 17 [.int .u64 (u : Int), pa, .int .u64 (v : Int), pb, w, .int .u64 ((x + u * wd la i : Nat) : Int), .int .u64 (y : Int), .int .u32 (bo : Int), .int .i64 (i : Int), .int .i64 (n : Int), .int .i64 (i : Int)] t Q := by
  refine zzjs _ _ _ _ _ _ _ _ _ _ _ ?_
  simp only [z8w, wpT, hb.len, zaa, zai, zav, zbo]; by_cases hlen : i < lb.length
  ·obtain ⟨z, hz⟩ := getElem?_of_lt hlen
   have hz32 : z < 4294967296 := by have := zbu hbl hz; omega
   obtain ⟨c, off, g1, g2⟩ := hb.idx zd0 hz
   rw [if_pos (by omega)]
   simp only [g1, g2, zaa, zai]; rw [z3j hy hv hz32]; have : wd lb i = z := by unfold wd; rw [hz]; rfl
   rw [this] at h; exact h
  ·rw [if_neg (by omega)]
   have : wd lb i = 0 := by unfold wd; rw [List.getElem?_eq_none (by omega)]; rfl
   rw [this, Nat.mul_zero, ybu] at h; exact h
 refine zzhq _ _ _ _ _ _ _ _ _ _ ?_
 simp only [z8v, wpT, zbo]; rw [if_pos (by omega)]
 simp only [ha.len, zaa, zai, zav]; by_cases hlen : i < la.length
 ·obtain ⟨z, hz⟩ := getElem?_of_lt hlen
  have hz32 : z < 4294967296 := by have := zbu hal hz; omega
  obtain ⟨c, off, g1, g2⟩ := ha.idx zd0 hz
  rw [if_pos (by omega)]
  simp only [g1, g2, zaa, zai]; rw [z3j hx hu hz32]; have : wd la i = z := by unfold wd; rw [hz]; rfl
  rw [this] at second; exact second
 ·rw [if_neg (by omega)]
  have : wd la i = 0 := by unfold wd; rw [List.getElem?_eq_none (by omega)]; rfl
  rw [this, Nat.mul_zero, ybu] at second; exact second
end Go.Proofs
namespace Go.Proofs
open Go Go.Am
variable [zcb]
variable {t : Tr zak}
theorem zzcg {la lb : List Nat} {pa pb : zab} {b u v n : Nat} {t0 : Tr zak} {Q : zao} (ha : RSl t0 1 (za2 .u32 la) pa) (hb : RSl t0 1 (za2 .u32 lb) pb) (hal : zax BB la) (hbl : zax BB lb) (hu : u < 4294967296) (hv : v < 4294967296) (hn : n < 1000000) (hbase : C13.base <= b) (hb0 : t0.get b = none)
  (hQ : ∀ t' W rv x z, TLe t0 t' -> RSl t' 1 (za2 .u32 (zc9 W)) rv -> W.length = n -> zax BB W -> val BB W + BB ^ n * x + v * val BB (lb.take n) = u * val BB (la.take n) + BB ^ n * z -> Q rv t') :
  ∀ (k i x y bo : Nat) (t' : Tr zak) (W : List Nat), i + k = n -> TLe t0 t' -> Own t' b .u32 (W ++ List.replicate k 0) -> W.length = i -> zax BB W -> x <= u -> y <= v -> bo < 2 -> val BB W + BB ^ i * x + v * val BB (lb.take i) = u * val BB (la.take i) + BB ^ i * (y + bo) →
  jp 206 2 [.int .u64 (u : Int), pa, .int .u64 (v : Int), pb, .slice b 0 n n, .int .u64 (x : Int), .int .u64 (y : Int), .int .u32 (bo : Int), .int .i64 (n : Int), .int .i64 (i : Int)] t' Q := by
 intro k; have hBB := zkg
 induction k with
 | zero =>
  intro i x y bo t' W hi ht ho hW hWl hx hy hbo hval; have hi' : i = n := by omega
  subst hi'
  have e3 : RSl t' 1 (za2 .u32 W) (.slice b 0 i i) := by
   rw [List.replicate_zero, ybe] at ho; have := ho.all (cap := i) (by omega)
   rw [hW] at this; exact this
  obtain ⟨rv, f1, f2⟩ := zlr (by omega) e3
  refine zzhq _ _ _ _ _ _ _ _ _ _ ?_
  simp only [z8v, wpT, zbo]; rw [if_neg (by omega)]
  simp only [q174, f1, zaa]; exact hQ t' W rv x (y + bo) ht f2 hW hWl hval
 | succ k ih =>
  intro i x y bo t' W hi ht ho hW hWl hx hy hbo hval; refine z6x (ha.mono ht) (hb.mono ht) hal hbl hu hv hx hy (by omega) ?_
  have wa := z0a zc7 hal i
  have wb := z0a zc7 hbl i
  have cx := z4t hx wa
  have cy := z4t hy wb
  have va := zg1 BB la i
  have vb := zg1 BB lb i
  generalize wd la i = ai at *
  generalize wd lb i = bi at *
  generalize hX : x + u * ai = X at *
  generalize hY : y + v * bi = Y at *
  have ex : zag .u32 (X : Int) = ((X % 4294967296 : Nat) : Int) := by rw [zdk]; omega
  have ey : zag .u32 (Y : Int) = ((Y % 4294967296 : Nat) : Int) := by rw [zdk]; omega
  have fx : Int.fdiv (X : Int) 4294967296 = ((X / 4294967296 : Nat) : Int) := zfk X 4294967296
  have fy : Int.fdiv (Y : Int) 4294967296 = ((Y / 4294967296 : Nat) : Int) := zfk Y 4294967296
  have hs := zzdw (t := t') (x := X % 4294967296) (y := Y % 4294967296) (b := bo) (ybz _ (by decide)) (ybz _ (by decide)) hbo
  obtain ⟨w, hw⟩ : ∃ w, w = (X % 4294967296 + 8589934592 - Y % 4294967296 - bo) % 4294967296 := ⟨_, rfl⟩
  obtain ⟨bo', hbo'⟩ : ∃ bo' : Nat, bo' = if X % 4294967296 < Y % 4294967296 + bo then 1 else 0 := ⟨_, rfl⟩
  rw [<- hw, <- hbo'] at hs; have hwlt : w < BB := by omega
  have hb2 : bo' < 2 := by rw [hbo']; split <;> omega
  have hsum : X % 4294967296 + 4294967296 * bo' = w + Y % 4294967296 + bo := by
   rw [hw, hbo']; split <;> omega
  have g1 := zl2 zd0 (b := b) (n := n) (cap := n) (j := i) (by omega)
  obtain ⟨t1, s1, s2, s3⟩ := ho.store (C := C13) hbase (j := i) (by simp; omega) w zeq rfl
  have hset := zgo (p := W) (n := k) (x := w)
  rw [hW] at hset; rw [hset] at s2; have ei : (i : Int) + 1 = ((i + 1 : Nat) : Int) := by omega
  refine zzjr _ _ _ _ _ _ _ _ _ _ _ ?_
  simp only [z8u, wpT, ex, ey, q217, hs, zaa, zar, zab.asTup, zac, zbn, yaa, yab, zai, g1, fx, fy, ei]; intro _ _ _; rw [s1, zaa, wrap_i64 (by omega) (by omega)]
  rw [hBB] at cx cy; refine ih (i + 1) (X / 4294967296) (Y / 4294967296) bo' t1 (W ++ [w]) (by omega) (ht.off hb0 s3) s2 (by simp [hW]) (ze4 hWl hwlt) cx cy hb2 ?_
  have hst := zzcf (B := BB) (P := BB ^ i) (ai := ai) (bi := bi) (x' := X / 4294967296) (y' := Y / 4294967296) (lx := X % 4294967296) (ly := Y % 4294967296) (w := w) (bo' := bo') hval (by rw [hX, hBB]; exact ybi _ _) (by rw [hY, hBB]; exact ybi _ _) (by rw [hBB]; exact hsum)
  rw [va, vb, zds, hW, Nat.pow_succ]; exact hst
theorem zgs {la lb : List Nat} {pa pb : zab} {u v : Nat} {Q : zao} (ha : RSl t 1 (za2 .u32 la) pa) (hb : RSl t 1 (za2 .u32 lb) pb) (hal : zax BB la) (hbl : zax BB lb) (hu : u < 4294967296) (hv : v < 4294967296) (hla : la.length < 700000) (hlb : lb.length < 700000) (hge : v * val BB lb <= u * val BB la)
  (hQ : ∀ t' r rv, TLe t t' -> RSl t' 1 (za2 .u32 r) rv -> zax BB r -> norm r -> val BB r = u * val BB la - v * val BB lb -> Q rv t') :
  Wc C13 F 206 [.int .u64 (u : Int), pa, .int .u64 (v : Int), pb] t Q := by
 have hBB := zkg
 refine w206 _ _ _ _ ?_
 simp only [t206, wpT, ha.len, hb.len, zaa, zai, zav]; obtain ⟨n, hn1, hn2, hn3, hn4⟩ : ∃ n : Nat, (bif iLt (la.length : Int) (lb.length : Int) then (lb.length : Int) else (la.length : Int)) + 1 = (n : Int) /\ la.length < n /\ lb.length < n /\ n < 700002 := by
  cases hc : iLt (la.length : Int) (lb.length : Int) with
  | true => have := zbo.1 hc; exact ⟨lb.length + 1, by simp, by omega, by omega, by omega⟩
  | false =>
   have : ¬ ((la.length : Int) < (lb.length : Int)) := fun h => by rw [zbo.2 h] at hc; cases hc
   exact ⟨la.length + 1, by simp, by omega, by omega, by omega⟩
 rw [hn1, wrap_i64 (by omega) (by omega)]
 intro b hb0 hbase; obtain ⟨t', g1, g2, g3, g4⟩ := zkn (C := C13) (k := .u32) zmc rfl zeq rfl rfl (by decide) (n := n) (by omega) hb0
 rw [g1]; have el : zbm (.slice b 0 n n) = some (.int .i64 (n : Int)) := rfl
 simp only [zaa, el, zai]; refine zzcg ha hb hal hbl hu hv (by omega) hbase hb0 (fun t2 W rv x z k1 k2 k3 k4 k5 => ?_) n 0 0 0 0 t' [] (by omega) g3 (by simpa using g2) rfl (fun x hx => by cases hx) (by omega) (by omega) (by omega) (by simp [val])
 rw [ybb (by omega), ybb (by omega)] at k5
 have hP : u * val BB la < BB ^ n := by
  have h1 := zgj zc7 hal
  have h2 : BB ^ (la.length + 1) <= BB ^ n := Nat.pow_le_pow_right zc7 (by omega)
  have h3 : u * val BB la <= u * BB ^ la.length := yaw _ (Nat.le_of_lt h1)
  have h4 : u * BB ^ la.length < BB * BB ^ la.length := Nat.mul_lt_mul_of_pos_right (by omega) (Nat.pow_pos zc7)
  rw [Nat.pow_succ, yai _ BB] at h2; omega
 have hWl := zgj zc7 k4
 rw [k3] at hWl; have := zzf4 k5 hWl hP hge
 exact hQ t2 (zc9 W) rv k1 k2 (zdf k4) (zdz _) (by rw [zdl]; exact this)
end Go.Proofs
namespace Go.Proofs
open Go Go.Am
variable [zcb]
variable {t : Tr zak}
theorem zzkr {v : zab} {l : List Nat} {b : Nat} (hv : RSl t 1 (za2 .u32 l) v) (hb : t.get b = none) :
  ∃ H', z0e v ⟨b, t⟩ = some (.ptr b 0, H') /\ TLe t H'.t /\ zau C13 200 ⟨0, H'.t⟩ (.ptr b 0) = some v := by
 have hc : v.cells = [v] := by
  obtain ⟨cl, h1, _⟩ := hv
  rcases h1 with ⟨rfl, _⟩ | ⟨_, _, _, rfl, _⟩ <;> rfl
 refine ⟨za0 ⟨b, t⟩ [v] none, by unfold z0e; rw [hc], ?_, ?_⟩
 ·intro c u hg
  show (t.set b _).get c = _
  rw [Tr.get_set, if_neg (by intro e; rw [e, hb] at hg; cases hg)]; exact hg
 ·have hg : (za0 ⟨b, t⟩ [v] none).t.get b = some (.cells (Tr.ofList [v]) 1 none) := by
   show (t.set b _).get b = _
   rw [Tr.get_set, if_pos rfl]; rfl
  unfold zau; simp only [zab.asPtr, zac]; rw [zmc, zac]; unfold zaq; rw [hg, zac]; simp only [zak.asCells, zac]; unfold zob; first
   | rfl
   | (rw [cond_false, Tr.get_ofList]; rfl)
theorem zz9 {v : zab} {l : List Nat} {b i : Nat} (hv : RSl t 1 (za2 .u32 l) v) (hl : zax BB l) (hload : zau C13 200 ⟨0, t⟩ (.ptr b 0) = some v) : pvC C13 F 220 [.int .i64 (i : Int), .ptr b 0] t = some (.int .u64 ((wd l i : Nat) : Int)) := by
 have hBB := zkg
 refine zaz.2 (w220 _ _ ?_)
 simp only [t220, wpT, hload, zaa, hv.len, zai, zav, zdc]; by_cases h : i < l.length
 ·obtain ⟨x, hx⟩ := getElem?_of_lt h
  have hx32 : x < 4294967296 := by have := zbu hl hx; omega
  obtain ⟨c, off, g1, g2⟩ := hv.idx zd0 hx
  rw [if_neg (by omega)]
  simp (disch := omega) only [g1, g2, zaa, zai, za3]
  have : wd l i = x := by unfold wd; rw [hx]; rfl
  rw [this]; simp
 ·rw [if_pos (by omega)]
  have : wd l i = 0 := by unfold wd; rw [List.getElem?_eq_none (by omega)]; rfl
  rw [this]; simp
theorem zzbm {v : zab} {l : List Nat} {n s : Nat} (hv : RSl t 1 (za2 .u32 l) v) (hl : zax BB l) (hn : 3 <= n) (hn2 : n < 1000000) (hs : s < 32) (hb : (wd l (n - 1) * 4294967296 + wd l (n - 2)) * 2 ^ s < 18446744073709551616) :
  pvC C13 F 213 [v, .int .i64 (n : Int), .int .i64 (s : Int)] t = some (.int .u64 (((wd l (n - 1) * 4294967296 + wd l (n - 2)) * 2 ^ s + wd l (n - 3) / 2 ^ (32 - s) : Nat) : Int)) := by
 have hBB := zkg
 refine ztc (w213 _ _ _ ?_)
 simp only [t213, wpT]; intro b hb0 _; obtain ⟨H', g1, g2, g3⟩ := zzkr hv hb0
 rw [g1, zaa]; have w1 := z0a zc7 hl (n - 1)
 have w2 := z0a zc7 hl (n - 2)
 have w3 := z0a zc7 hl (n - 3)
 have c1 := zz9 (i := n - 1) (hv.mono g2) hl g3
 have c2 := zz9 (i := n - 2) (hv.mono g2) hl g3
 have c3 := zz9 (i := n - 3) (hv.mono g2) hl g3
 generalize wd l (n - 1) = x1 at *
 generalize wd l (n - 2) = x2 at *
 generalize wd l (n - 3) = x3 at *
 have e1 : (n : Int) - 1 = ((n - 1 : Nat) : Int) := by omega
 have e2 : (n : Int) - 2 = ((n - 2 : Nat) : Int) := by omega
 have e3 : (n : Int) - 3 = ((n - 3 : Nat) : Int) := by omega
 have e4 : (32 : Int) - (s : Int) = ((32 - s : Nat) : Int) := by omega
 have f : ∀ a, zpq (.func (.func 220) [] [.ptr b 0]) [a] = some (220, [a, .ptr b 0]) := fun _ => rfl
 have e5 : (x1 : Int) * 4294967296 = ((x1 * 4294967296 : Nat) : Int) := by omega
 rw [f, zaa, e1, wrap_i64 (by omega) (by omega), q220, c1, zaa, zai, zaa, f, zaa, e2, wrap_i64 (by omega) (by omega), q220, c2, zaa, zai, zaa, e5, za3 (by omega) (by omega), or32 (by omega) (by omega), zaa, zai, zaa, z4b (by omega) hb, zaa, zai, zaa, f, zaa, e3, wrap_i64 (by omega) (by omega), q220, c3, zaa, zai, zaa, e4, wrap_i64 (by omega) (by omega), z4a (by omega), zaa, zai, zaa]
 have hz : x3 / 2 ^ (32 - s) < 2 ^ s := ybv (by rw [<- Nat.pow_add, show 32 - s + s = 32 by omega]; omega)
 have hz2 : (2 : Nat) ^ s <= 2 ^ 31 := Nat.pow_le_pow_right (by decide) (by omega)
 generalize x3 / 2 ^ (32 - s) = z at hz ⊢
 have ho := zt1 (a := x1 * 4294967296 + x2) (b := z) (n := s) hz
 generalize (x1 * 4294967296 + x2) * 2 ^ s = h at hb ho ⊢
 have hz3 : z < 18446744073709551616 := by omega
 rw [zea (k := .u64) (show h < kHi .u64 from hb) (show z < kHi .u64 from hz3), ho, zaa, zai, zaa]
 exact ⟨rfl, g2⟩
end Go.Proofs
namespace Go.Proofs
open Go Go.Am
variable [zcb]
variable {t : Tr zak}
theorem zvo {A1 B1 : Nat} {P : Nat -> Nat -> Nat -> Nat -> Nat -> Nat -> Nat -> Nat -> Bool -> Prop} {Q : zao} (hA : A1 < 18446744073709551616) (hB : B1 < 18446744073709551616)
  (hstep : ∀ x y u0 u1 u2 v0 v1 v2 ev, P x y u0 u1 u2 v0 v1 v2 ev -> 0 < y -> v2 <= y -> v1 + v2 <= x - y -> P y (x % y) u1 u2 (u1 + x / y * u2) v1 v2 (v1 + x / y * v2) (!ev))
  (hQ : ∀ x y u0 u1 u2 v0 v1 v2 ev, P x y u0 u1 u2 v0 v1 v2 ev -> Q (.agg [.int .u64 (u0 : Int), .int .u64 (u1 : Int), .int .u64 (v0 : Int), .int .u64 (v1 : Int), .bool ev]) t) :
  ∀ (y x u0 u1 u2 v0 v1 v2 : Nat) (ev : Bool) (c0 c1 c2 c3 : Int) (c4 : Bool), P x y u0 u1 u2 v0 v1 v2 ev -> A1 = v2 * x + v1 * y -> B1 = u2 * x + u1 * y -> y <= x -> 1 <= v2 -> v1 <= v2 →
  jp 204 2 [.int .u64 (x : Int), .int .u64 (y : Int), .int .u64 (u2 : Int), .int .u64 (v2 : Int), .int .u64 c0, .int .u64 c1, .int .u64 c2, .int .u64 c3, .bool c4, .int .u64 (u0 : Int), .int .u64 (u1 : Int), .int .u64 (v0 : Int), .int .u64 (v1 : Int), .bool ev] t Q := by
 intro y; induction y using Nat.strongRecOn with
 | ind y ih =>
  intro x u0 u1 u2 v0 v1 v2 ev c0 c1 c2 c3 c4 hP hx hy hle h1 h12; refine j204_2 _ _ _ _ _ _ _ _ _ _ _ _ _ _ ?_
  simp only [zzg2, wpT, zdc]; by_cases g1 : v2 <= y
  ·rw [if_pos (by omega)]
   have hy0 : 0 < y := by omega
   have b1 : v2 * x <= A1 := by omega
   have b2 : x <= A1 := Nat.le_trans (Nat.le_mul_of_pos_left x (by omega)) b1
   have b3 : v2 < 4294967296 := by
    rcases Nat.lt_or_ge v2 4294967296 with h | h
    ·exact h
    ·exfalso
     have : 4294967296 * 4294967296 <= v2 * x := ycc h (by omega)
     omega
   have e1 : zag .u64 ((v1 : Int) + (v2 : Int)) = ((v1 + v2 : Nat) : Int) := by rw [za3 (by omega) (by omega)]; omega
   have e2 : zag .u64 ((x : Int) - (y : Int)) = ((x - y : Nat) : Int) := by rw [za3 (by omega) (by omega)]; omega
   rw [e1, e2]; by_cases g2 : v1 + v2 <= x - y
   ·rw [if_pos (by omega)]
    have hdm := ybi x y
    have hmod : x % y < y := ybz _ hy0
    have hq1 : 1 <= x / y := by
     rw [Nat.le_div_iff_mul_le hy0]; omega
    have hxq : x / y <= x := Nat.div_le_self _ _
    have e3 : zzfi .u64 (x : Int) (y : Int) = some (.int .u64 ((x / y : Nat) : Int)) := zwh hy0 (by
     generalize x / y = q at hxq ⊢
     exact za3 (by omega) (by omega))
    have e4 : zzfh .u64 (x : Int) (y : Int) = some (.int .u64 ((x % y : Nat) : Int)) := zp5 hy0
    have hst := hstep x y u0 u1 u2 v0 v1 v2 ev hP hy0 g1 g2
    generalize x / y = q at *
    generalize x % y = r at *
    have nA : A1 = (v1 + q * v2) * y + v2 * r := by
     rw [hx, <- hdm, yan, yap, yai y q, <- yak v2 q, yai v2 q]; omega
    have nB : B1 = (u1 + q * u2) * y + u2 * r := by
     rw [hy, <- hdm, yan, yap, yai y q, <- yak u2 q, yai u2 q]; omega
    have bv : v1 + q * v2 <= A1 := Nat.le_trans (Nat.le_mul_of_pos_right _ hy0) (by omega)
    have bu : u1 + q * u2 <= B1 := Nat.le_trans (Nat.le_mul_of_pos_right _ hy0) (by omega)
    have bq : v2 <= q * v2 := Nat.le_mul_of_pos_left _ hq1
    have e5 : zag .u64 ((v1 : Int) + zag .u64 ((q : Int) * (v2 : Int))) = ((v1 + q * v2 : Nat) : Int) := by
     rw [<- Int.natCast_mul]; generalize q * v2 = z at bv ⊢
     rw [za3 (n := (z : Int)) (by omega) (by omega), za3 (by omega) (by omega)]; omega
    have e6 : zag .u64 ((u1 : Int) + zag .u64 ((q : Int) * (u2 : Int))) = ((u1 + q * u2 : Nat) : Int) := by
     rw [<- Int.natCast_mul]; generalize q * u2 = z at bu ⊢
     rw [za3 (n := (z : Int)) (by omega) (by omega), za3 (by omega) (by omega)]; omega
    rw [e3, zaa, zai, zaa, e4, zaa, zai, zaa, e5, e6]; simp only [if_true]; exact ih r hmod y u1 u2 (u1 + q * u2) v1 v2 (v1 + q * v2) (!ev) _ _ _ _ _ hst nA nB (by omega) (by omega) (by omega)
   ·rw [if_neg (by omega)]
    simp only [if_true]; exact hQ x y u0 u1 u2 v0 v1 v2 ev hP
  ·rw [if_neg (by omega)]
   simp only [if_true]; exact hQ x y u0 u1 u2 v0 v1 v2 ev hP
end Go.Proofs
namespace Go.Am
def Lrel (a b x y u1 u2 v1 v2 : Nat) (ev : Bool) : Prop :=
 match ev with
 | false => u1 * v2 = u2 * v1 + 1 /\ x + v1 * b = u1 * a /\ y + u2 * a = v2 * b
 | true => u2 * v1 = u1 * v2 + 1 /\ x + u1 * a = v1 * b /\ y + v2 * b = u2 * a
def Lst (u1 u2 v1 v2 : Nat) : Prop := (u1 = 1 /\ v1 = 0 /\ u2 = 0) \/ (u1 <= v1 /\ u2 <= v2 /\ 1 <= u2 /\ 1 <= v1)
def zzgq (a b u0 u1 v0 v1 : Nat) (ev : Bool) : Prop := ∃ x y, Lrel a b x y u0 u1 v0 v1 (!ev) /\ v1 <= y /\ v0 + v1 <= x - y /\ u0 <= v0 /\ u1 <= v1 /\ 1 <= u1 /\ 1 <= v0 /\ v0 <= v1
def Lsim (a b x y u0 u1 u2 v0 v1 v2 : Nat) (ev : Bool) : Prop := Lrel a b x y u1 u2 v1 v2 ev /\ 1 <= v2 /\ v1 <= v2 /\ Lst u1 u2 v1 v2 /\ (v0 = 0 \/ zzgq a b u0 u1 v0 v1 ev)
theorem zzdb (a b : Nat) : Lsim a b a b 0 1 0 0 0 1 false := ⟨⟨by simp, by simp, by simp⟩, yal _, by omega, .inl ⟨rfl, rfl, rfl⟩, .inl rfl⟩
theorem zzda {a b x y u0 u1 u2 v0 v1 v2 : Nat} {ev : Bool} (h : Lsim a b x y u0 u1 u2 v0 v1 v2 ev) (hy : 0 < y) (h1 : v2 <= y) (h2 : v1 + v2 <= x - y) :
  Lsim a b y (x % y) u1 u2 (u1 + x / y * u2) v1 v2 (v1 + x / y * v2) (!ev) := by
 obtain ⟨k1, k2, k5, k3, k4⟩ := h
 have hq : 1 <= x / y := by rw [Nat.le_div_iff_mul_le hy]; omega
 have hdm := ybi x y
 generalize x / y = q at *
 generalize x % y = r at *
 have hv2 : v2 <= q * v2 := Nat.le_mul_of_pos_left _ hq
 have hu2 : u2 <= q * u2 := Nat.le_mul_of_pos_left _ hq
 refine ⟨?_, by omega, by omega, ?_, ?_⟩
 ·cases ev with
  | false =>
   obtain ⟨m1, m2, m3⟩ := k1
   refine ⟨?_, m3, ?_⟩
   ·rw [yap, yan, m1]
    have : q * u2 * v2 = u2 * (q * v2) := by rw [yai q u2, yak]
    omega
   ·-- r + (v1 + q v2) b = (u1 + q u2) a
    show r + (v1 + q * v2) * b = (u1 + q * u2) * a
    have e : q * (y + u2 * a) = q * (v2 * b) := by rw [m3]
    rw [yan, <- yak, <- yak, yai q y] at e; rw [yap, yap]; omega
  | true =>
   obtain ⟨m1, m2, m3⟩ := k1
   refine ⟨?_, m3, ?_⟩
   ·show u2 * (v1 + q * v2) = (u1 + q * u2) * v2 + 1
    rw [yap, yan, m1]; have : q * u2 * v2 = u2 * (q * v2) := by rw [yai q u2, yak]
    omega
   ·show r + (u1 + q * u2) * a = (v1 + q * v2) * b
    have e : q * (y + v2 * b) = q * (u2 * a) := by rw [m3]
    rw [yan, <- yak, <- yak, yai q y] at e; rw [yap, yap]; omega
 ·right
  rcases k3 with ⟨e1, e2, e3⟩ | ⟨g1, g2, g3, g4⟩
  ·subst e1 e2 e3
   refine ⟨by omega, ?_, by omega, by omega⟩
   simp only [Nat.mul_zero, yax, ybu]; omega
  ·have := yaw q g2
   exact ⟨g2, by omega, by omega, by omega⟩
 ·rcases k3 with ⟨e1, e2, e3⟩ | ⟨g1, g2, g3, g4⟩
  ·exact .inl e2
  ·right
   exact ⟨x, y, by rw [Bool.not_not]; exact k1, h1, h2, g1, g2, g3, g4, k5⟩
end Go.Am
namespace Go.Am
theorem zkq {p q r s A B X Y : Nat} (hdet : p * s = q * r + 1) (hX : X + r * B = p * A) (hY : Y + q * A = s * B) : A = s * X + r * Y /\ B = q * X + p * Y := by
 have a1 : s * (X + r * B) = s * (p * A) := by rw [hX]
 have a2 : r * (Y + q * A) = r * (s * B) := by rw [hY]
 have a3 : q * (X + r * B) = q * (p * A) := by rw [hX]
 have a4 : p * (Y + q * A) = p * (s * B) := by rw [hY]
 have d1 : p * s * A = q * r * A + A := by rw [hdet, yap, Nat.one_mul]
 have d2 : p * s * B = q * r * B + B := by rw [hdet, yap, Nat.one_mul]
 have e1 : s * (p * A) = p * s * A := by rw [<- yak, yai s p]
 have e2 : r * (q * A) = q * r * A := by rw [<- yak, yai r q]
 have e3 : s * (r * B) = r * (s * B) := Nat.mul_left_comm _ _ _
 have e4 : q * (p * A) = p * (q * A) := Nat.mul_left_comm _ _ _
 have e5 : q * (r * B) = q * r * B := (yak _ _ _).symm
 have e6 : p * (s * B) = p * s * B := (yak _ _ _).symm
 rw [yan] at a1 a2 a3 a4; constructor <;> omega
theorem zyo {p q r s a b A B W α β x y : Nat} (hx : x + r * b = p * a) (hy : y + q * a = s * b) (hA : A = W * a + α) (hB : B = W * b + β) (ha : α < W) (hb : β < W) (hrs : r + s <= x - y) (h1 : 1 <= r + s) (hq : q <= y) :
  ∃ X Y, X + r * B = p * A /\ Y + q * A = s * B /\ Y < X := by
 obtain ⟨D, hD⟩ : ∃ D, x = y + D := ⟨x - y, by omega⟩
 have w1 : p * A = W * x + r * (W * b) + p * α := by
  rw [hA, yan, Nat.mul_left_comm p W, <- hx, yan, Nat.mul_left_comm W r]
 have w2 : r * B = r * (W * b) + r * β := by rw [hB, yan]
 have w3 : s * B = W * y + q * (W * a) + s * β := by
  rw [hB, yan, Nat.mul_left_comm s W, <- hy, yan, Nat.mul_left_comm W q]
 have w4 : q * A = q * (W * a) + q * α := by rw [hA, yan]
 have i1 : r * β <= W * D := by
  rw [yai W D]; exact ycc (by omega) (by omega)
 have i2 : q * α <= W * y := by
  rw [yai W y]; exact ycc hq (by omega)
 have i3 : (r + s) * β < W * D := by
  have h2 : (r + s) * β < (r + s) * W := Nat.mul_lt_mul_of_pos_left hb (by omega)
  have h3 : (r + s) * W <= D * W := yaj _ (by omega)
  rw [yai W D]; omega
 have w5 : W * x = W * y + W * D := by rw [hD, yan]
 rw [yap] at i3; exact ⟨p * A - r * B, s * B - q * A, by omega, by omega, by omega⟩
theorem lehmer {a b A B W α β u0 u1 v0 v1 : Nat} {ev : Bool} (hA : A = W * a + α) (hB : B = W * b + β) (ha : α < W) (hb : β < W) (h : zzgq a b u0 u1 v0 v1 ev) :
  ∃ X Y, (ev = true -> X + v0 * B = u0 * A /\ Y + u1 * A = v1 * B) /\ (ev = false -> X + u0 * A = v0 * B /\ Y + v1 * B = u1 * A) /\ Y < X /\ A = v1 * X + v0 * Y /\ B = u1 * X + u0 * Y /\ X + Y < A + B := by
 obtain ⟨x, y, k1, k2, k3, k4, k5, k6, k7, _⟩ := h
 have fin : ∀ X Y : Nat, Y < X -> A = v1 * X + v0 * Y -> B = u1 * X + u0 * Y -> X + Y < A + B := by
  intro X Y g1 g2 g3; have j1 : X <= v1 * X := Nat.le_mul_of_pos_left _ (by omega)
  have j2 : X <= u1 * X := Nat.le_mul_of_pos_left _ (by omega)
  omega
 cases ev with
 | true =>
  obtain ⟨m1, m2, m3⟩ := k1
  obtain ⟨X, Y, g1, g2, g3⟩ := zyo m2 m3 hA hB ha hb k3 (by omega) (by omega)
  obtain ⟨d1, d2⟩ := zkq m1 g1 g2
  exact ⟨X, Y, fun _ => ⟨g1, g2⟩, (fun h => absurd h (by decide)), g3, d1, d2, fin X Y g3 d1 d2⟩
 | false =>
  obtain ⟨m1, m2, m3⟩ := k1
  obtain ⟨X, Y, g1, g2, g3⟩ := zyo m2 m3 hB hA hb ha (by omega) (by omega) k2
  have m1' : v0 * u1 = v1 * u0 + 1 := by rw [yai v0 u1, yai v1 u0]; exact m1
  obtain ⟨d1, d2⟩ := zkq m1' g1 g2
  exact ⟨X, Y, (fun h => absurd h (by decide)), fun _ => ⟨g1, g2⟩, g3, d2, d1, fin X Y g3 d2 d1⟩
theorem z2n {a b u0 u1 v0 v1 : Nat} {ev : Bool} (ha : a < 18446744073709551616) (hb : b < 18446744073709551616) (h : zzgq a b u0 u1 v0 v1 ev) : u0 < 4294967296 /\ u1 < 4294967296 /\ v0 < 4294967296 /\ v1 < 4294967296 := by
 obtain ⟨x, y, k1, k2, k3, k4, k5, k6, k7, k8⟩ := h
 have key : a = v1 * x + v0 * y := by
  cases ev with
  | true =>
   obtain ⟨m1, m2, m3⟩ := k1
   exact (zkq m1 m2 m3).1
  | false =>
   obtain ⟨m1, m2, m3⟩ := k1
   have m1' : v0 * u1 = v1 * u0 + 1 := by rw [yai v0 u1, yai v1 u0]; exact m1
   exact (zkq m1' m2 m3).2
 have : v1 < 4294967296 := by
  rcases Nat.lt_or_ge v1 4294967296 with g | g
  ·exact g
  ·exfalso
   have : 4294967296 * 4294967296 <= v1 * x := ycc g (by omega)
   omega
 omega
end Go.Am
namespace Go.Am
theorem zzdm {B : Nat} {l : List Nat} {m : Nat} (hl : l.length <= m + 3) : val B l = val B (l.take m) + B ^ m * (wd l m + B * (wd l (m + 1) + B * wd l (m + 2))) := by
 have h0 := zg1 B l m
 have h1 : val B (l.take (m + 2)) = val B (l.take (m + 1)) + B ^ (m + 1) * wd l (m + 1) := zg1 B l (m + 1)
 have h2 : val B (l.take (m + 3)) = val B (l.take (m + 2)) + B ^ (m + 2) * wd l (m + 2) := zg1 B l (m + 2)
 have p1 : B ^ (m + 1) = B ^ m * B := Nat.pow_succ _ _
 have p2 : B ^ (m + 2) = B ^ m * B * B := by rw [Nat.pow_succ, Nat.pow_succ]
 rw [ybb hl] at h2; rw [p1] at h1; rw [p2] at h2; rw [h2, h1, h0, yan (B ^ m), yan B, yan (B ^ m)]
 simp only [yak]; omega
theorem z4d {B p K m : Nat} {l : List Nat} (hB : B = p * K) (hp : 0 < p) (hB0 : 0 < B) (hlt : zax B l) (hl : l.length <= m + 3) :
  (wd l (m + 2) * B + wd l (m + 1)) * K + wd l m / p = val B l / (B ^ m * p) := by
 have h1 := zzdm (B := B) hl
 have h2 : val B (l.take m) < B ^ m := by
  have h := zgj hB0 (zel hlt m)
  exact Nat.lt_of_lt_of_le h (Nat.pow_le_pow_right hB0 (by simp; omega))
 have h3 : val B l / B ^ m = wd l m + B * (wd l (m + 1) + B * wd l (m + 2)) := by
  rw [h1, Nat.add_mul_div_left _ _ (Nat.pow_pos hB0), Nat.div_eq_of_lt h2, yax]
 rw [<- Nat.div_div_eq_div_mul, h3]; generalize wd l m = x
 have e : B * (wd l (m + 1) + B * wd l (m + 2)) = p * (K * (wd l (m + 2) * B + wd l (m + 1))) := by
  rw [<- yak p, <- hB, yai (wd l (m + 2)), Nat.add_comm]
 rw [e, Nat.add_mul_div_left _ _ hp, yai K, Nat.add_comm]
end Go.Am
namespace Go.Proofs
open Go Go.Am
variable [zcb]
variable {t : Tr zak}
theorem z0s {la lb : List Nat} {pa pb : zab} {m top : Nat} {Q : zao} (ha : RSl t 1 (za2 .u32 la) pa) (hb : RSl t 1 (za2 .u32 lb) pb) (hal : zax BB la) (hbl : zax BB lb) (hla : la.length = m + 3) (hm : m < 700000) (hlb : lb.length <= m + 3) (htop : la[m + 2]? = some top) (ht0 : 0 < top) (hle : val BB lb <= val BB la)
  (hQ : ∀ u0 u1 v0 v1 ev W, 0 < W -> val BB la / W < 18446744073709551616 -> val BB lb / W < 18446744073709551616 -> (v0 = 0 \/ zzgq (val BB la / W) (val BB lb / W) u0 u1 v0 v1 ev) -> Q (.agg [.int .u64 (u0 : Int), .int .u64 (u1 : Int), .int .u64 (v0 : Int), .int .u64 (v1 : Int), .bool ev]) t) :
  Wc C13 F 204 [pa, pb] t Q := by
 have hBB := zkg
 have htlt : top < 4294967296 := by have := zbu hal htop; omega
 obtain ⟨s, hs, hs1, hs2, hs3⟩ := zzag (t := t) htlt ht0
 obtain ⟨c, off, g1, g2⟩ := ha.idx zd0 htop
 have hK : BB = 2 ^ (32 - s) * 2 ^ s := by rw [<- Nat.pow_add, show 32 - s + s = 32 by omega, hBB]
 have hp : 0 < 2 ^ (32 - s) := Nat.pow_pos (by decide)
 have va := z4d hK hp zc7 hal (m := m) (by omega)
 have vb := z4d hK hp zc7 hbl hlb
 have hW : 0 < BB ^ m * 2 ^ (32 - s) := Nat.mul_pos (Nat.pow_pos zc7) hp
 have hdiv : val BB lb / (BB ^ m * 2 ^ (32 - s)) <= val BB la / (BB ^ m * 2 ^ (32 - s)) := Nat.div_le_div_right hle
 have hwt : wd la (m + 2) = top := by unfold wd; rw [htop]; rfl
 have wa1 := z0a zc7 hal (m + 1)
 have wa0 := z0a zc7 hal m
 have hz : wd la m / 2 ^ (32 - s) < 2 ^ s := ybv (by rw [<- hK]; exact wa0)
 rw [hBB] at va vb; have bigA : (wd la (m + 2) * 4294967296 + wd la (m + 1)) * 2 ^ s + wd la m / 2 ^ (32 - s) < 18446744073709551616 := by
  rw [hwt]; have q1 : top + 1 <= 2 ^ (32 - s) := by
   have : top * 2 ^ s < 2 ^ (32 - s) * 2 ^ s := by rw [<- hK, hBB]; exact hs2
   exact Nat.lt_of_mul_lt_mul_right this
  have q2 : (top * 4294967296 + wd la (m + 1)) + 1 <= 2 ^ (32 - s) * 4294967296 := by
   have := yaj 4294967296 q1
   omega
  have q3 := yaj (2 ^ s) q2
  have q4 : 2 ^ (32 - s) * 4294967296 * 2 ^ s = 18446744073709551616 := by
   have : 2 ^ (32 - s) * 2 ^ s = 4294967296 := by rw [<- hK, hBB]
   rw [Nat.mul_right_comm, this]
  rw [yap, Nat.one_mul] at q3; omega
 have hBB' : ∀ l, val 4294967296 l = val BB l := fun l => by rw [hBB]
 have hPP : (4294967296 : Nat) ^ m = BB ^ m := by rw [hBB]
 rw [hBB', hPP] at va vb; have zlk : (wd lb (m + 2) * 4294967296 + wd lb (m + 1)) * 2 ^ s + wd lb m / 2 ^ (32 - s) < 18446744073709551616 := by
  rw [va] at bigA; rw [vb]; exact Nat.lt_of_le_of_lt hdiv bigA
 have h1 := zzbm (n := m + 3) (s := s) ha hal (by omega) (by omega) hs (Nat.lt_of_le_of_lt (Nat.le_add_right _ _) bigA)
 have h2 := zzbm (n := m + 3) (s := s) hb hbl (by omega) (by omega) hs (Nat.lt_of_le_of_lt (Nat.le_add_right _ _) zlk)
 rw [show m + 3 - 1 = m + 2 by omega, show m + 3 - 2 = m + 1 by omega, show m + 3 - 3 = m by omega] at h1 h2; rw [va] at h1 bigA; rw [vb] at h2 zlk; generalize hw : BB ^ m * 2 ^ (32 - s) = W at *
 have e1 : ((m + 3 : Nat) : Int) - 1 = ((m + 2 : Nat) : Int) := by omega
 refine w204 _ _ ?_
 simp only [t204, wpT, ha.len, zaa, zai, zav, hla, e1]; rw [wrap_i64 (by omega) (by omega), g1, zaa, g2, zaa, zai, zaa, q212, hs3, zaa, zai, zaa, q213, h1, zaa, zai, zaa, q213, h2, zaa, zai, zaa]
 simp only [if_true]; exact zvo (P := Lsim (val BB la / W) (val BB lb / W)) bigA zlk (fun x y u0 u1 u2 v0 v1 v2 ev hP hy k1 k2 => zzda hP hy k1 k2) (fun x y u0 u1 u2 v0 v1 v2 ev hP => hQ u0 u1 v0 v1 ev W hW bigA zlk hP.2.2.2.2) _ _ 0 1 0 0 0 1 false 0 0 0 0 false (zzdb _ _) (by omega) (by omega) hdiv (by omega) (by omega)
end Go.Proofs
namespace Go.Am
theorem zzbt {A B X Y u0 u1 v0 v1 : Nat} {ev : Bool} (h1 : ev = true -> X + v0 * B = u0 * A /\ Y + u1 * A = v1 * B) (h2 : ev = false -> X + u0 * A = v0 * B /\ Y + v1 * B = u1 * A) (hA : A = v1 * X + v0 * Y) (hB : B = u1 * X + u0 * Y) : Nat.gcd X Y = Nat.gcd A B := by
 have gX := Nat.gcd_dvd_left X Y
 have gY := Nat.gcd_dvd_right X Y
 have gA := Nat.gcd_dvd_left A B
 have gB := Nat.gcd_dvd_right A B
 refine Nat.dvd_antisymm (Nat.dvd_gcd ?_ ?_) (Nat.dvd_gcd ?_ ?_)
 ·generalize Nat.gcd X Y = g at *
  rw [hA]; exact Nat.dvd_add (ybf gX _) (ybf gY _)
 ·generalize Nat.gcd X Y = g at *
  rw [hB]; exact Nat.dvd_add (ybf gX _) (ybf gY _)
 ·generalize Nat.gcd A B = g at *
  cases ev with
  | true =>
   have := (h1 rfl).1
   exact (Nat.dvd_add_left (ybf gB v0)).1 (this ▸ ybf gA u0)
  | false =>
   have := (h2 rfl).1
   exact (Nat.dvd_add_left (ybf gA u0)).1 (this ▸ ybf gB v0)
 ·generalize Nat.gcd A B = g at *
  cases ev with
  | true =>
   have := (h1 rfl).2
   exact (Nat.dvd_add_left (ybf gA u1)).1 (this ▸ ybf gB v1)
  | false =>
   have := (h2 rfl).2
   exact (Nat.dvd_add_left (ybf gB v1)).1 (this ▸ ybf gA u1)
theorem zzbu {a b q r : Nat} (h : a = b * q + r) : Nat.gcd b r = Nat.gcd a b := by
 subst h; rw [Nat.gcd_comm (b * q + r) b, yai, Nat.gcd_comm b (q * b + r), Nat.gcd_mul_right_add_left]
 exact Nat.gcd_comm _ _
theorem zzj7 {x y : Nat} : Nat.gcd y (x % y) = Nat.gcd x y := by
 rw [Nat.gcd_comm y (x % y), <- Nat.gcd_rec, Nat.gcd_comm]
theorem zxm {B : Nat} {l : List Nat} (hB : 0 < B) (h : zax B l) (hl : l.length <= 2) : val B l < B * B := by
 have h1 := zgj hB h
 have h2 : B ^ l.length <= B ^ 2 := Nat.pow_le_pow_right hB hl
 rw [Nat.pow_two] at h2; omega
end Go.Am
namespace Go.Proofs
open Go Go.Am
variable [zcb]
variable {t : Tr zak}
theorem zzbg {c : Prop} {d : Decidable c} {P Q : Prop} (h : c) (k : P) : @ite Prop c d P Q := by rw [if_pos h]; exact k
theorem ite_no {c : Prop} {d : Decidable c} {P Q : Prop} (h : ¬ c) (k : Q) : @ite Prop c d P Q := by rw [if_neg h]; exact k
theorem z1v {Q : zao} : ∀ (y x : Nat), x < 18446744073709551616 -> y < 18446744073709551616 -> (∀ t' r rv, TLe t t' -> RSl t' 1 (za2 .u32 r) rv -> zax BB r -> norm r -> val BB r = Nat.gcd x y -> Q rv t') -> jp 194 6 [.int .u64 (x : Int), .int .u64 (y : Int)] t Q := by
 have hBB := zkg
 intro y; induction y using Nat.strongRecOn with
 | ind y ih =>
  intro x hx hy hQ; refine j194_6 _ _ ?_
  simp only [zzg3, wpT, zv8]; by_cases h0 : y = 0
  ·subst h0
   rw [if_neg (by simp)]
   simp only [q208]; refine zzd3 hx fun t' v' h1 h2 => ?_
   have a1 := zzp hx
   have a2 := z43 x
   rw [<- hBB] at a1 a2; exact hQ t' (zt0 x) v' h1 h2 a1 (z1b x) (by rw [a2, Nat.gcd_zero_right])
  ·rw [if_pos (by omega), zp5 (by omega), zaa, zai, zaa]
   have hm := ybz x (show 0 < y by omega)
   have hg := zzj7 (x := x) (y := y)
   generalize x % y = z at *
   exact ih z hm y hy (by omega) fun t' r rv k1 k2 k3 k4 k5 => hQ t' r rv k1 k2 k3 k4 (by rw [k5, hg])
theorem zzai {l : List Nat} {v : zab} (hv : RSl t 1 (za2 .u32 l) v) (hl : l.length <= 2) (hlt : zax BB l) : pvC C13 F 207 [v] t = some (.int .u64 ((val BB l : Nat) : Int)) := by
 have hBB := zkg
 rw [hBB] at hlt ⊢
 exact zzjk hv hl hlt
theorem zzcq {la lb : List Nat} {pa pb : zab} {Q : zao} (ha : RSl t 1 (za2 .u32 la) pa) (hb : RSl t 1 (za2 .u32 lb) pb) (hal : zax BB la) (hbl : zax BB lb) (hla : la.length <= 2) (hlb : lb.length <= 2)
  (hQ : ∀ t' r rv, TLe t t' -> RSl t' 1 (za2 .u32 r) rv -> zax BB r -> norm r -> val BB r = Nat.gcd (val BB la) (val BB lb) -> Q rv t') : jp 194 33 [pa, pb] t Q := by
 have hBB := zkg
 have b1 := zxm zc7 hal hla
 have b2 := zxm zc7 hbl hlb
 refine zzjt _ _ ?_
 simp only [z80, wpT, q207, zzai ha hla hal, zzai hb hlb hbl, zaa, zai]; rw [hBB] at b1 b2; have hBB' : ∀ l, val 4294967296 l = val BB l := fun l => by rw [hBB]
 rw [hBB'] at b1 b2; exact z1v _ _ b1 b2 hQ
theorem zzcr {Q : zao} {t0 : Tr zak} {G : Nat} (hQ : ∀ t' r rv, TLe t0 t' -> RSl t' 1 (za2 .u32 r) rv -> zax BB r -> norm r -> val BB r = G -> Q rv t') : ∀ (n : Nat) (la lb : List Nat) (pa pb : zab) (t : Tr zak), val BB la + val BB lb = n -> TLe t0 t -> RSl t 1 (za2 .u32 la) pa -> RSl t 1 (za2 .u32 lb) pb -> zax BB la -> zax BB lb -> norm la -> norm lb -> val BB lb <= val BB la -> la.length < 700000 -> Nat.gcd (val BB la) (val BB lb) = G -> jp 194 2 [pa, pb] t Q := by
 have hBB := zkg
 have hB1 : 1 < BB := by omega
 intro n; induction n using Nat.strongRecOn with
 | ind n ih =>
  intro la lb pa pb t hn ht ha hb hal hbl han hbn hle hlen hg; have hlb : lb.length <= la.length := zfe hB1 hal hbn hle
  refine j194_2 _ _ ?_
  simp only [zzg4, wpT, hb.len, zaa, zai, zav, zbo]; by_cases h2 : 2 < lb.length
  ·rw [if_pos (by omega)]
   have hb0 : lb ≠ [] := by intro e; subst e; simp at h2
   have hbpos : 0 < val BB lb := by
    rcases Nat.eq_zero_or_pos (val BB lb) with h | h
    ·exact absurd (zi7 zc7 hbn h) hb0
    ·exact h
   obtain ⟨m, hm⟩ : ∃ m, la.length = m + 3 := ⟨la.length - 3, by omega⟩
   obtain ⟨top, htop⟩ := getElem?_of_lt (l := la) (i := m + 2) (by omega)
   have ha0 : la ≠ [] := by intro e; subst e; simp at hm
   have ht0 : 0 < top := by
    have := han ha0
    have hlast : la.getLast ha0 = top := by
     rw [List.getLast_eq_getElem]; have : la[la.length - 1]? = some top := by rw [hm]; exact htop
     rw [yae (by omega)] at this
     exact ybj this
    rw [hlast] at this; omega
   rw [q204]; refine z0s ha hb hal hbl hm (by omega) (by omega) htop ht0 hle fun u0 u1 v0 v1 ev W hW hA hB hL => ?_
   have eG : z7b [(.int .u64 0), (.int .u64 0), (.int .u64 0), (.int .u64 0), (.bool false)] (.agg [.int .u64 (u0 : Int), .int .u64 (u1 : Int), .int .u64 (v0 : Int), .int .u64 (v1 : Int), .bool ev]) = some (cellsOf [.int .u64 (u0 : Int), .int .u64 (u1 : Int), .int .u64 (v0 : Int), .int .u64 (v1 : Int), .bool ev]) := zsu rfl
   rw [eG]; simp only [zaa, cellsOf, zzjy, zu2, yaa, yab, if_true, zvs]; by_cases hv0 : v0 = 0
   ·refine zzbg (zen.2 (by omega)) ?_
    rw [q205]; refine zy7 ha hb hlen hal hbl han hbn hb0 fun t' q r qv rv k1 k2 k3 k4 k5 k6 k7 k8 k9 => ?_
    simp only [zar, zab.asTup, zac, zbn, yaa, yab, zaa]; refine ih (val BB lb + val BB r) (by omega) lb r pb rv t' rfl (ht.trans k1) (hb.mono k1) k3 hbl k5 hbn k7 (by omega) (by omega) ?_
    rw [zzbu k8]; exact hg
   ·refine ite_no (fun e => absurd (zen.1 e) (by omega)) ?_
    rcases hL with h | hL
    ·exact absurd h hv0
    obtain ⟨s1, s2, s3, s4⟩ := z2n hA hB hL
    have eA : val BB la = W * (val BB la / W) + val BB la % W := (ybi _ _).symm
    have eB : val BB lb = W * (val BB lb / W) + val BB lb % W := (ybi _ _).symm
    obtain ⟨X, Y, l1, l2, l3, l4, l5, l6⟩ := lehmer eA eB (ybz _ hW) (ybz _ hW) hL
    have hgg := zzbt l1 l2 l4 l5
    have hXA : X <= val BB la := by
     have : X <= v1 * X := Nat.le_mul_of_pos_left _ (by
      obtain ⟨x, y, _, _, _, _, _, _, w2, w3⟩ := hL; omega)
     omega
    cases ev with
    | true =>
     obtain ⟨m1, m2⟩ := l1 rfl
     simp only [if_true]; rw [q206]; refine zgs ha hb hal hbl s1 s3 hlen (by omega) (by omega) fun t1 r1 rv1 k1 k2 k3 k4 k5 => ?_
     rw [q206]; refine zgs (hb.mono k1) (ha.mono k1) hbl hal s4 s2 (by omega) hlen (by omega) fun t2 r2 rv2 j1 j2 j3 j4 j5 => ?_
     have e1 : val BB r1 = X := by omega
     have e2 : val BB r2 = Y := by omega
     refine ih (val BB r1 + val BB r2) (by omega) r1 r2 rv1 rv2 t2 rfl (ht.trans (k1.trans j1)) (k2.mono j1) j2 k3 j3 k4 j4 (by omega) ?_ (by rw [e1, e2, hgg]; exact hg)
     have := zfe hB1 hal k4 (by rw [e1]; exact hXA)
     omega
    | false =>
     obtain ⟨m1, m2⟩ := l2 rfl
     simp only [if_true, yar, if_false]; rw [q206]; refine zgs hb ha hbl hal s3 s1 (by omega) hlen (by omega) fun t1 r1 rv1 k1 k2 k3 k4 k5 => ?_
     rw [q206]; refine zgs (ha.mono k1) (hb.mono k1) hal hbl s2 s4 hlen (by omega) (by omega) fun t2 r2 rv2 j1 j2 j3 j4 j5 => ?_
     have e1 : val BB r1 = X := by omega
     have e2 : val BB r2 = Y := by omega
     refine ih (val BB r1 + val BB r2) (by omega) r1 r2 rv1 rv2 t2 rfl (ht.trans (k1.trans j1)) (k2.mono j1) j2 k3 j3 k4 j4 (by omega) ?_ (by rw [e1, e2, hgg]; exact hg)
     have := zfe hB1 hal k4 (by rw [e1]; exact hXA)
     omega
  ·rw [if_neg (by omega)]
   simp only [zen]; by_cases h0 : lb.length = 0
   ·rw [if_pos (by omega)]
    have : lb = [] := ybd.1 h0
    subst this; refine hQ t la pa ht ha hal han ?_
    rw [<- hg]; simp only [val]; rw [Nat.gcd_zero_right]
   ·rw [if_neg (by omega)]
    simp only [ha.len, zaa, zai, zav, zbo]; have hb0 : lb ≠ [] := by intro e; subst e; simp at h0
    by_cases h3 : 2 < la.length
    ·rw [if_pos (by omega), q205]
     refine zy7 ha hb hlen hal hbl han hbn hb0 fun t' q r qv rv k1 k2 k3 k4 k5 k6 k7 k8 k9 => ?_
     simp only [zar, zab.asTup, zac, zbn, yaa, yab, zaa]; have := zfe hB1 hbl k7 (Nat.le_of_lt k9)
     refine zzcq (hb.mono k1) k3 hbl k5 (by omega) (by omega) fun t2 r2 rv2 j1 j2 j3 j4 j5 => ?_
     exact hQ t2 r2 rv2 (ht.trans (k1.trans j1)) j2 j3 j4 (by rw [j5, zzbu k8]; exact hg)
    ·rw [if_neg (by omega)]
     refine zzcq ha hb hal hbl (by omega) (by omega) fun t2 r2 rv2 j1 j2 j3 j4 j5 => ?_
     exact hQ t2 r2 rv2 (ht.trans j1) j2 j3 j4 (by rw [j5]; exact hg)
theorem cd_ok {la lb : List Nat} {pa pb : zab} {Q : zao} (ha : RSl t 1 (za2 .u32 la) pa) (hb : RSl t 1 (za2 .u32 lb) pb) (hal : zax BB la) (hbl : zax BB lb) (han : norm la) (hbn : norm lb) (hla : la.length < 700000) (hlb : lb.length < 700000)
  (hQ : ∀ t' r rv, TLe t t' -> RSl t' 1 (za2 .u32 r) rv -> zax BB r -> norm r -> val BB r = Nat.gcd (val BB la) (val BB lb) -> Q rv t') : Wc C13 F 194 [pa, pb] t Q := by
 have hBB := zkg
 have hB1 : 1 < BB := by omega
 have hlt := zzcm hB1 hal hbl han hbn
 refine w194 _ _ ?_
 simp only [t194, wpT, q203, zzh5 (by omega) ha hb, zaa, zai, zbo]
 by_cases hc : zwv la lb < 0
 ·rw [if_pos hc]
  have := hlt.1 hc
  exact zzcr hQ _ lb la pb pa t rfl (TLe.refl _) hb ha hbl hal hbn han (by omega) hlb (Nat.gcd_comm _ _)
 ·rw [if_neg hc]
  have : val BB lb <= val BB la := Nat.le_of_not_lt fun h => hc (hlt.2 h)
  exact zzcr hQ _ la lb pa pb t rfl (TLe.refl _) ha hb hal hbl han hbn this hla rfl
end Go.Proofs
namespace Go.Proofs
open Go Go.Am
variable [zcb]
variable {t : Tr zak}
theorem zmr {neg : Bool} {l : List Nat} (h : ze8 neg l = true) : norm l := by
 intro hne; unfold ze8 at h; rw [if_neg hne, yac] at h; have := of_decide_eq_true h.2
 intro e; exact this (by rw [List.getLast?_eq_some_getLast hne, e])
theorem zw1 {l : List zew} {v : zab} (hv : RSl t 2 (l.map zew.d) v) (hb : ∀ w ∈ l, w.limbs.length < 1125899906842624) (hn : l.length < 1125899906842624) : ∀ (k i : Nat), i + k = l.length -> jp 192 2 [v, .int .i64 (l.length : Int), .int .i64 (i : Int)] t (fun r m => r = .bool ((l.drop i).all fun w => ze8 w.neg w.limbs) /\ m = t) := by
 intro k; induction k with
 | zero =>
  intro i hi; refine zzhv _ _ _ ?_
  simp only [z82, wpT, zbo]; rw [if_neg (by omega), yau (by omega)]
  (first | exact ⟨rfl, rfl⟩ | exact ⟨rfl, trivial⟩ | trivial)
 | succ k ih =>
  intro i hi; have hlt : i < l.length := by omega
  have hx : l[i]? = some l[i] := yae hlt
  obtain ⟨b, off, cs, g1, g2, _, _, g5⟩ := zpi.at sl237 (by simp) hv (i := i) (d := l[i].d) (by simp [hx])
  obtain ⟨u, rfl, hu⟩ := zvy g5
  have hv1 := zpt (neg := l[i].neg) (hb _ (ybk hlt)) hu
  refine zzhv _ _ _ ?_
  simp only [z82, wpT, zbo]; rw [if_pos (by omega), g1, zaa, g2, zqn, zaa, zst g5 (zew.zs _)]
  simp only [zaa, cellsOf, zu2, z7w, yaa, yab]; have hone : zd9 zab.one [.bool l[i].neg, u] = true := by
   show (bif zab.one (.bool l[i].neg) then (bif zab.one u then true else false) else false) = true
   rw [hu.one]; rfl
  refine zzbg hone ?_
  rw [q148, hv1]; simp only [zaa, ze1, zv9]; rw [yam hlt, ybh]
  cases hq : ze8 l[i].neg l[i].limbs with
  | false => simp
  | true =>
   simp only [ybo, Bool.true_eq_false, if_false]; rw [wrap_i64 (by omega) (by omega)]
   exact ih (i + 1) (by omega)
theorem z2j {l : List zew} {v : zab} (hv : RSl t 2 (l.map zew.d) v) (hb : ∀ w ∈ l, w.limbs.length < 1125899906842624) (hn : l.length < 1125899906842624) : pvC C13 F 192 [v] t = some (.bool (l.all fun w => ze8 w.neg w.limbs)) := by
 refine zaz.2 (w192 _ ?_)
 simp only [t192, wpT, hv.len, zaa, zai, yag]; have := zw1 hv hb hn l.length 0 (by omega)
 rw [ybs] at this; exact this
theorem gcd_ok {n d : zew} {u v : zab} {Q : zao} (hu : RSl t 1 (zif n.limbs) u) (hv : RSl t 1 (zif d.limbs) v) (hn : n.limbs.length < 700000) (hd : d.limbs.length < 700000) (hnl : zax 65536 n.limbs) (hdl : zax 65536 d.limbs) (hnv : ze8 n.neg n.limbs = true) (hdv : ze8 d.neg d.limbs = true)
  (hQ : ∀ t' g rv, TLe t t' -> RSl t' 1 (zif g) rv -> zax 65536 g -> norm g -> val 65536 g = Nat.gcd (val 65536 n.limbs) (val 65536 d.limbs) -> Q (.tup [.agg [.bool false, rv], .int .i64 0]) t') : Wc C13 F 172 [.agg [.bool n.neg, u], .agg [.bool d.neg, v]] t Q := by
 have hBB := zkg
 refine w172 _ _ _ _ ?_
 simp only [t172, wpT]; intro b hb hbase; obtain ⟨t1, g1, g2, g3, g4⟩ := zyl (C := C13) (T := 237) (el := 24) (sz := 2) (n := 2) (cl := [[.bool n.neg, u], [.bool d.neg, v]]) (ps := [(0, .agg [.bool n.neg, u]), (1, .agg [.bool d.neg, v])]) ty237 rfl ty24 rfl rfl (by decide) rfl (fun i cs hi => by
  rcases i with _ | _ | i
  ·simp at hi; subst hi; rfl
  ·simp at hi; subst hi; rfl
  ·simp at hi) rfl hb
 rw [g1, zaa]; have hw : RSl t1 2 ([n, d].map zew.d) (.slice b 0 2 2) := ⟨_, g2, by
  simp only [ybn, List.map_nil, zba, zcr]; refine ⟨_, _, rfl, ?_, _, _, rfl, ?_, rfl⟩
  ·unfold zew.d
   rw [zi2]; refine ⟨[[.bool n.neg], [u]], rfl, ?_⟩
   simp only [zba, zcr, zke, zl8]; exact ⟨_, _, rfl, rfl, _, _, rfl, ⟨u, rfl, hu.mono g3⟩, rfl⟩
  ·unfold zew.d
   rw [zi2]; refine ⟨[[.bool d.neg], [v]], rfl, ?_⟩
   simp only [zba, zcr, zke, zl8]; exact ⟨_, _, rfl, rfl, _, _, rfl, ⟨v, rfl, hv.mono g3⟩, rfl⟩⟩
 have hall := z2j hw (fun w hw => by
  rcases yat.1 hw with rfl | hw
  ·omega
  ·rw [yce.1 hw]; omega) (by simp)
 rw [q192, hall]; simp only [zaa, ze1, zv9, ybh, ybl, hnv, hdv, Bool.and_self, Bool.true_eq_false, if_false]; rw [q151]; refine z03 (hu.mono g3) (by omega) hnl fun t2 v2 k1 k2 => ?_
 rw [if_pos hv.same, q151]; refine z03 ((hv.mono g3).mono k1) (by omega) hdl fun t3 v3 m1 m2 => ?_
 have an := zhl hnl
 have ad := zhl hdl
 rw [<- hBB] at an ad; rw [q194]; refine cd_ok (k2.mono m1) m2 an ad (zkm (zmr hnv)) (zkm (zmr hdv)) (by rw [zdx]; omega) (by rw [zdx]; omega) fun t4 r rv p1 p2 p3 p4 p5 => ?_
 rw [hBB] at p3; have vn : ∀ l, val BB (zdy l) = val 65536 l := fun l => by rw [hBB]; exact zqm l
 rw [vn, vn] at p5; have hrl : r.length < 400000 := by
  have hB1 : 1 < BB := by omega
  rcases Nat.eq_zero_or_pos (val 65536 n.limbs) with h0 | h0
  ·rw [h0, Nat.gcd_zero_left, <- vn] at p5
   have := zfe hB1 ad p4 (Nat.le_of_eq p5)
   rw [zdx] at this; omega
  ·have h1 := Nat.gcd_le_left (val 65536 d.limbs) h0
   rw [<- p5, <- vn] at h1; have := zfe hB1 an p4 h1
   rw [zdx] at this; omega
 rw [q193]; refine z76 p2 hrl p3 fun t5 v5 s1 s2 => ?_
 rw [zih p4] at s2 ⊢
 have eG : z7b [(.bool false), .nilslice] (.agg [.bool (if r = [] then false else false), v5]) = some (cellsOf [.bool (if r = [] then false else false), v5]) := zsu (by
  show (true && (zzft .nilslice v5 && true)) = true
  rw [zsb s2]; rfl)
 rw [eG]; have hone : zd9 zab.one [.bool false, v5] = true := by
  show (bif zab.one (.bool false) then (bif zab.one v5 then true else false) else false) = true
  rw [s2.one]; rfl
 simp only [zaa, cellsOf, zu2, z7w, yaa, yab, ite_self, hone, if_true]; refine hQ t5 (zc9 (zb1 r)) v5 (g3.trans (k1.trans (m1.trans (p1.trans s1)))) s2 (zdf (znn p3)) (zdz _) ?_
 rw [zdl, <- p5, zql, hBB]
end Go.Proofs
namespace Go.Am
def zd5.fit (f : zd5) : Prop := f.ok /\ zax 65536 f.n.limbs /\ zax 65536 f.d.limbs
def zzy.fit (v : zzy) : Prop := v.kind < 256 /\ v.f.fit /\ -9223372036854775808 <= v.i /\ v.i < 9223372036854775808
mutual
def zcl.fit : zcl -> Prop
 | .mk op name v args => op < 256 /\ name.length < zlk /\ (∀ c ∈ name, c < 256) /\ v.fit /\ args.length < zlk /\ zcl.fits args
def zcl.fits : List zcl -> Prop
 | [] => True
 | x :: l => x.fit /\ zcl.fits l
end
def i64 (n : Int) : Prop := -9223372036854775808 <= n /\ n < 9223372036854775808
def ztm.fit (r : ztm) : Prop := i64 r.a /\ i64 r.b /\ i64 r.known /\ r.f.fit
def zfo.fit (x : zfo) : Prop := x.name.length < zlk /\ x.rows.length < zlk /\ ∀ r ∈ x.rows, r.fit
def z2l.fit (x : z2l) : Prop := x.name.length < zlk /\ x.kind < 256
def zet.fit (x : zet) : Prop := x.name.length < zlk /\ x.label.length < zlk /\ i64 x.from_ /\ i64 x.to /\ i64 x.known /\ x.when_.fit /\ x.then_.fit
structure zl7.fit (p : zl7) : Prop where
 name : p.name.length < zlk
 ndefs : p.defs.length < zlk
 ntables : p.tables.length < zlk
 nclauses : p.clauses.length < zlk
 defs : ∀ d ∈ p.defs, d.fit
 tables : ∀ d ∈ p.tables, d.fit
 clauses : ∀ d ∈ p.clauses, d.fit
end Go.Am
namespace Go.Proofs
open Go Go.Am
variable [zcb]
variable {t : Tr zak}
def sameW (a b : zew) : Bool := (a.neg == b.neg) && decide (a.limbs = b.limbs)
def sameF (a b : zd5) : Bool := sameW a.n b.n && sameW a.d b.d
def sameV (a b : zzy) : Bool := decide (a.kind = b.kind) && decide (a.i = b.i) && sameF a.f b.f
def zr3 (w : zew) : Bool := !w.neg && decide (w.limbs = [1])
def zjp (f : zd5) : Bool := decide (f.n.limbs.length <= 256) && decide (f.d.limbs.length <= 256) && ze8 f.n.neg f.n.limbs && ze8 f.d.neg f.d.limbs && !f.d.neg && decide (f.d.limbs ≠ []) && (zr3 f.d || decide (Nat.gcd (val 65536 f.n.limbs) (val 65536 f.d.limbs) = 1))
theorem zzj0 {a b : Int} : iLt a b = decide (a < b) := by
 cases h : iLt a b with
 | true => rw [decide_eq_true (zbo.1 h)]
 | false => rw [decide_eq_false (fun k => by rw [zbo.2 k] at h; cases h)]
theorem zzj2 {a b : Int} : iLe a b = decide (a <= b) := by
 cases h : iLe a b with
 | true => rw [decide_eq_true (zdc.1 h)]
 | false => rw [decide_eq_false (fun k => by rw [zdc.2 k] at h; cases h)]
theorem z1n {a b : Int} : iEq a b = decide (a = b) := by
 cases h : iEq a b with
 | true => rw [decide_eq_true (zen.1 h)]
 | false => rw [decide_eq_false (fun k => by rw [zen.2 k] at h; cases h)]
theorem zvf {f : zd5} {u v : zab} (hu : RSl t 1 (zif f.n.limbs) u) (hv : RSl t 1 (zif f.d.limbs) v) (hf : zd5.fit f) : pvC C13 F 116 [.agg [.bool f.n.neg, u, .bool f.d.neg, v]] t = some (.bool (zjp f)) := by
 obtain ⟨h1, h2, h3⟩ := hf
 unfold zd5.ok zlk at h1; have c1 : pvC C13 F 147 [.agg [.bool f.n.neg, u, .bool f.d.neg, v]] t = some (.bool (!(decide (f.n.limbs.length <= 256) && decide (f.d.limbs.length <= 256)))) := by
  refine zaz.2 (w147 _ _ _ _ ?_)
  simp only [t147, wpT, hu.len, hv.len, zaa, zai, zqb]; have e : iLt 256 (f.d.limbs.length : Int) = !decide (f.d.limbs.length <= 256) := by
   rw [zzj0, <- decide_not]; congr 1; exact propext ⟨by omega, by omega⟩
  by_cases g1 : f.n.limbs.length <= 256
  ·rw [if_neg (fun h => absurd (zbo.1 h) (by omega)), e]
   simp [g1]
  ·rw [if_pos (zbo.2 (by omega))]; simp [g1]
 have c2 := zpt (neg := f.n.neg) (by omega) hu
 have c3 := zpt (neg := f.d.neg) (by omega) hv
 have c4 : pvC C13 F 118 [.agg [.bool f.n.neg, u, .bool f.d.neg, v]] t = some (.bool (zr3 f.d)) := by
  refine zaz.2 (w118 _ _ _ _ ?_)
  simp only [t118, wpT, q149, zwd hv, zaa, ze1]; (first | exact ⟨rfl, rfl⟩ | exact ⟨rfl, trivial⟩ | trivial)
 refine ztc (w116 _ _ _ _ ?_)
 simp only [t116, wpT, q147, c1, q148, c2, c3, q118, c4, zaa, ze1, hv.len, zai, zqb, zen, zv9]; unfold zjp; by_cases g1 : f.n.limbs.length <= 256
 ·by_cases g2 : f.d.limbs.length <= 256
  ·simp only [g1, g2, decide_true, ybo, Bool.not_true, yar, if_false]
   cases hn : ze8 f.n.neg f.n.limbs with
   | false => simp
   | true =>
    cases hd : ze8 f.d.neg f.d.limbs with
    | false => simp
    | true =>
     simp only [Bool.true_eq_false, if_false, ybo]
     cases hg : f.d.neg with
     | true => simp
     | false =>
      simp only [yar, if_false, ybm, ybo]; by_cases h0 : f.d.limbs = []
      ·rw [if_pos (by rw [h0]; rfl)]; simp [h0]
      ·have : f.d.limbs.length ≠ 0 := fun e => h0 (ybd.1 e)
       rw [if_neg (by omega)]
       simp only [h0, ne_eq, not_false_eq_true, decide_true, ybo]
       cases ho : zr3 f.d with
       | true => simp
       | false =>
        simp only [yar, if_false, Bool.false_or]; rw [q150]; refine w150 _ _ _ _ ?_
        simp only [t150, wpT, q172]; have hn' := hn
        have hd' := hd
        rw [hg] at hd'
        refine gcd_ok (n := f.n) (d := ⟨false, f.d.limbs⟩) hu hv (by omega) (by show f.d.limbs.length < _; omega) h2 h3 hn' hd' fun t' g rv k1 k2 k3 k4 k5 => ?_
        have eG : z7b [(.bool false), .nilslice] (.agg [.bool false, rv]) = some (cellsOf [.bool false, rv]) := zsu (by
         show (true && (zzft .nilslice rv && true)) = true
         rw [zsb k2]; rfl)
        have hone : zd9 zab.one [.bool false, rv] = true := by
         show (bif zab.one (.bool false) then (bif zab.one rv then true else false) else false) = true
         rw [k2.one]; rfl
        simp only [zar, zab.asTup, zac, zbn, yaa, yab, zaa, zai, eG, cellsOf, zu2, z7w, hone, if_true]; rw [q149, zwd k2]; simp only [zaa, ze1, ybm, ybo]
        refine ⟨?_, k1⟩
        congr 1
        rw [decide_eq_decide, <- k5]; constructor
        ·intro e; subst e; rfl
        ·intro e
         exact zzer (B := 65536) (by decide) k3 (fun x hx => by rw [yce.1 hx]; decide) k4 (fun _ => by simp) (by rw [e]; rfl)
  ·simp [g2]
 ·simp [g1]
theorem zxe {f : zd5} {u v : zab} (hu : RSl t 1 (zif f.n.limbs) u) (hv : RSl t 1 (zif f.d.limbs) v) (hf : zd5.fit f) : pvC C13 F 91 [.agg [.bool f.n.neg, u, .bool f.d.neg, v]] t = some (.bool (zjp f)) := by
 refine zaz.2 (w91 _ _ _ _ ?_)
 simp only [t91, wpT, q116, zvf hu hv hf, zaa, ze1, if_true]; exact ⟨trivial, trivial⟩
end Go.Proofs
namespace Go.Proofs
open Go Go.Am
variable [zcb]
variable {t : Tr zak}
theorem zeh {a b : List Nat} (h : a.length + b.length < 4611686018427387904) : zvt a b = some (.str (a ++ b)) := by
 unfold zvt; rw [za1, za1, zc8.2 h, zb7]; rfl
theorem z29 {s : List Nat} {k : Nat} (h : k <= s.length) : zcu C13 9 H0A (.str s) (some (.int .i64 (k : Int))) none = some (.str (s.drop k)) := by
 unfold zcu zgd; rw [ty9, zac]; simp only [zab.asStr]; rw [show zce.isString .string = true from rfl, zam]; unfold zpz zfn zsm zne; have e : ziq (k : Int) = some k := rfl
 simp only [zac, zab.asNat, zab.asInt, e, za1, zh2.2 h, zh2.2 (yal _), zam, zff, zf4, List.take_length]
theorem zvn {s : List Nat} {k : Nat} (h : k <= s.length) : zcu C13 9 H0A (.str s) none (some (.int .i64 (k : Int))) = some (.str (s.take k)) := by
 unfold zcu zgd; rw [ty9, zac]; simp only [zab.asStr]; rw [show zce.isString .string = true from rfl, zam]; unfold zpz zfn zsm zne; have e : ziq (k : Int) = some k := rfl
 simp only [zac, zab.asNat, zab.asInt, e, za1, zh2.2 h, zh2.2 (Nat.zero_le _), zam, zff, zf4, ybs]
def zzx (a b : List Nat) : Bool := decide (b.length <= a.length) && zes (a.take b.length) b
theorem zo8 {a b : List Nat} : pvC C13 F 155 [.str a, .str b] t = some (.bool (zzx a b)) := by
 refine zaz.2 (w155 _ _ ?_)
 simp only [t155, wpT, zfg, zdc]; unfold zzx; by_cases h : b.length <= a.length
 ·rw [if_pos (by omega), zvn h, zaa]
  simp [zab.asStr, h]
 ·rw [if_neg (by omega)]
  simp [h]
theorem zve {a b : List Nat} : pvC C13 F 93 [.str a, .str b] t = some (.str (if zzx a b then a.drop b.length else a)) := by
 have h : pvC C13 F 119 [.str a, .str b] t = some (.str (if zzx a b then a.drop b.length else a)) := by
  refine zaz.2 (w119 _ _ ?_)
  simp only [t119, wpT, q155, zo8, zaa, zab.asBool, zfg]
  cases hp : zzx a b with
  | true =>
   simp only [if_true]; have : b.length <= a.length := by unfold zzx at hp; simp at hp; exact hp.1
   rw [z29 this, zaa]; simp [zab.asStr]
  | false => simp
 refine zaz.2 (w93 _ _ ?_)
 simp only [t93, wpT, q119, h, zaa, zab.asStr]; first | exact ⟨rfl, rfl⟩ | exact ⟨trivial, trivial⟩ | exact ⟨rfl, trivial⟩
theorem zza {a b : List Nat} : pvC C13 F 120 [.str a, .str b] t = some (.tup [.str (if zzx a b then a.drop b.length else a), .bool (zzx a b)]) := by
 have h : pvC C13 F 156 [.str a, .str b] t = some (.tup [.str (if zzx a b then a.drop b.length else a), .bool (zzx a b)]) := by
  refine zaz.2 (w156 _ _ ?_)
  simp only [t156, wpT, q155, zo8, zaa, zab.asBool, zfg]
  cases hp : zzx a b with
  | true =>
   simp only [Bool.not_true, yar, if_false]; have : b.length <= a.length := by unfold zzx at hp; simp at hp; exact hp.1
   rw [z29 this, zaa]; simp [zab.asStr]
  | false => simp
 refine zaz.2 (w120 _ _ ?_)
 have x0 : ∀ u v, zar 0 (.tup [u, v]) = some u := fun _ _ => rfl
 have x1 : ∀ u v, zar 1 (.tup [u, v]) = some v := fun _ _ => rfl
 simp only [t120, wpT, q156, h, zaa, x0, x1, zab.asStr, zab.asBool]; first | exact ⟨rfl, rfl⟩ | exact ⟨trivial, trivial⟩ | exact ⟨rfl, trivial⟩
def znz (s : List Nat) : List Nat := if zzx s [45] then [109, 105, 110, 117, 115, 32] ++ s.drop 1 else s
theorem zxq {s : List Nat} (h : s.length < 4000000000000000000) : pvC C13 F 95 [.str s] t = some (.str (znz s)) := by
 refine zaz.2 (w95 _ ?_)
 have x0 : ∀ u v, zar 0 (.tup [u, v]) = some u := fun _ _ => rfl
 have x1 : ∀ u v, zar 1 (.tup [u, v]) = some v := fun _ _ => rfl
 simp only [t95, wpT, q120, zza, zaa, x0, x1, zab.asStr, zab.asBool]; unfold znz
 cases hp : zzx s [45] with
 | true =>
  simp only [if_true]; rw [zeh (by simp; omega), zaa]
  simp [zab.asStr]
 | false => simp
theorem zzjv {n : Int} (h0 : -9223372036854775808 <= n) (h1 : n < 9223372036854775808) : pvC C13 F 98 [.int .i64 n] t = some (.str (zpo n)) := by
 have hg : C13.prims.get 98 = some (zk2 z5v) := by kernel_rfl
 refine zv0 hg fun H => ?_
 unfold z5v; simp only []; rw [zdc.2 h0, zbo.2 h1]; rfl
theorem zzfc {n : Int} (h0 : -9223372036854775808 <= n) (h1 : n < 9223372036854775808) : (zpo n).length <= 21 := by
 by_cases h : n < 0
 ·obtain ⟨u, rfl⟩ : ∃ u : Nat, n = -(u : Int) := ⟨n.natAbs, by omega⟩
  rw [zzbe (by omega)]
  have := zsi (u := u) (k := 20) (by decide) (by rw [show (10 : Nat) ^ 20 = 100000000000000000000 by decide]; omega)
  simp; omega
 ·obtain ⟨u, rfl⟩ : ∃ u : Nat, n = (u : Int) := ⟨n.toNat, by omega⟩
  rw [zr2]; have := zsi (u := u) (k := 20) (by decide) (by rw [show (10 : Nat) ^ 20 = 100000000000000000000 by decide]; omega)
  omega
theorem z6d {n : Int} (h0 : -9223372036854775808 <= n) (h1 : n < 9223372036854775808) : pvC C13 F 59 [.int .i64 n] t = some (.str (znz (zpo n))) := by
 have := zzfc h0 h1
 refine zaz.2 (w59 _ ?_)
 simp only [t59, wpT, q98, zzjv h0 h1, zaa, zab.asStr, q95, zxq (s := zpo n) (by omega)]
 first | exact ⟨rfl, rfl⟩ | exact ⟨trivial, trivial⟩ | exact ⟨rfl, trivial⟩
def zr9 (f : zd5) : List Nat := zqj f.n.neg f.n.limbs ++ (if zr3 f.d then [] else 47 :: zqj f.d.neg f.d.limbs)
theorem z15 {u : Nat} : ∀ {k : Nat}, u < 10 ^ k -> (zkw u).length <= k + 1 := by
 intro k h; have := zsi (u := u) (k := k + 1) (by omega) (by rw [Nat.pow_succ]; omega)
 exact this
theorem zki {neg : Bool} {l : List Nat} (hlt : zax 65536 l) (hl : l.length <= 1024) : (zqj neg l).length <= 10000 := by
 unfold zqj intN; have h1 := zgj (B := 65536) (by decide) hlt
 have h2 : (65536 : Nat) ^ l.length <= 10 ^ (5 * l.length) := by
  rw [Nat.pow_mul]; exact Nat.pow_le_pow_left (by decide) _
 have := z15 (u := val 65536 l) (k := 5 * l.length) (by omega)
 rw [yah]; have : (if neg = true then [45] else ([] : List Nat)).length <= 1 := by cases neg <;> simp
 omega
theorem zov {f : zd5} (h : zjp f = true) : ze8 f.n.neg f.n.limbs = true /\ ze8 f.d.neg f.d.limbs = true /\ f.n.limbs.length <= 1024 /\ f.d.limbs.length <= 1024 := by
 unfold zjp at h; simp only [yac, decide_eq_true_eq] at h; obtain ⟨⟨⟨⟨⟨⟨h1, h2⟩, h3⟩, h4⟩, _⟩, _⟩, _⟩ := h
 exact ⟨h3, h4, by omega, by omega⟩
theorem zzbv {f : zd5} (hf : f.fit) (h : zjp f = true) : (zr9 f).length <= 20001 := by
 obtain ⟨_, _, h3, h4⟩ := zov h
 have a := zki (neg := f.n.neg) hf.2.1 h3
 have b := zki (neg := f.d.neg) hf.2.2 h4
 unfold zr9; rw [yah]; split
 ·simp; omega
 ·simp; omega
theorem zr8 {f : zd5} {u v : zab} (hu : RSl t 1 (zif f.n.limbs) u) (hv : RSl t 1 (zif f.d.limbs) v) (hf : zd5.fit f) : pvC C13 F 92 [.agg [.bool f.n.neg, u, .bool f.d.neg, v]] t = some (if zjp f then .tup [.str (zr9 f), .int .i64 0] else .tup [.str [], .int .i64 2]) := by
 refine zaz.2 (w92 _ _ _ _ ?_)
 have x0 : ∀ u v, zar 0 (.tup [u, v]) = some u := fun _ _ => rfl
 have x1 : ∀ u v, zar 1 (.tup [u, v]) = some v := fun _ _ => rfl
 simp only [t92, wpT, q91, zxe hu hv hf, zaa, zab.asBool]
 cases hval : zjp f with
 | false => simp
 | true =>
  obtain ⟨h1, h2, h3, h4⟩ := zov hval
  have a := zki (neg := f.n.neg) hf.2.1 h3
  have b := zki (neg := f.d.neg) hf.2.2 h4
  have c1 : pvC C13 F 118 [.agg [.bool f.n.neg, u, .bool f.d.neg, v]] t = some (.bool (zr3 f.d)) := by
   refine zaz.2 (w118 _ _ _ _ ?_)
   simp only [t118, wpT, q149, zwd hv, zaa, zab.asBool]; first | exact ⟨rfl, rfl⟩ | exact ⟨trivial, trivial⟩ | exact ⟨rfl, trivial⟩
  simp only [Bool.not_true, yar, if_false, q117, z8j hu hf.2.1 h1, zaa, x0, x1, zab.asStr, zai, if_true, q118, c1, zab.asBool]; unfold zr9
  cases hone : zr3 f.d with
  | true => simp
  | false =>
   simp only [ybm, if_true, z8j hv hf.2.2 h2, zaa, x0, x1, zab.asStr, zai]; rw [zeh (by simp; omega), zaa]
   simp only [zab.asStr, zaa]; rw [zeh (by simp; omega), zaa]
   simp [zab.asStr]
theorem z1q {f : zd5} {u v : zab} (hu : RSl t 1 (zif f.n.limbs) u) (hv : RSl t 1 (zif f.d.limbs) v) (hf : zd5.fit f) (hval : zjp f = true) : pvC C13 F 57 [.agg [.bool f.n.neg, u, .bool f.d.neg, v]] t = some (.str (znz (zr9 f))) := by
 have := zzbv hf hval
 refine zaz.2 (w57 _ _ _ _ ?_)
 have x0 : ∀ u v, zar 0 (.tup [u, v]) = some u := fun _ _ => rfl
 have x1 : ∀ u v, zar 1 (.tup [u, v]) = some v := fun _ _ => rfl
 simp only [t57, wpT, q92, zr8 hu hv hf, hval, if_true, zaa, x0, x1, zab.asStr, zai, q95, zxq (s := zr9 f) (by omega)]
 first | exact ⟨rfl, rfl⟩ | exact ⟨trivial, trivial⟩ | exact ⟨rfl, trivial⟩
def zra (f : zd5) : Bool := decide (f.n.limbs.length <= 42) && decide (f.d.limbs.length <= 42) && zjp f && decide ((if zzx (zr9 f) [45] then (zr9 f).drop 1 else zr9 f).length <= 200)
theorem zjs {f : zd5} {u v : zab} (hu : RSl t 1 (zif f.n.limbs) u) (hv : RSl t 1 (zif f.d.limbs) v) (hf : zd5.fit f) : pvC C13 F 53 [.agg [.bool f.n.neg, u, .bool f.d.neg, v]] t = some (.bool (zra f)) := by
 refine zaz.2 (w53 _ _ _ _ ?_)
 have x0 : ∀ u v, zar 0 (.tup [u, v]) = some u := fun _ _ => rfl
 have x1 : ∀ u v, zar 1 (.tup [u, v]) = some v := fun _ _ => rfl
 simp only [t53, wpT, hu.len, hv.len, zqb, zaa, zai, zbo]; unfold zra; by_cases h1 : f.n.limbs.length <= 42
 ·rw [if_neg (by omega)]
  by_cases h2 : f.d.limbs.length <= 42
  ·rw [if_neg (by omega)]
   simp only [q91, zxe hu hv hf, zaa, zab.asBool]
   cases hval : zjp f with
   | false => simp
   | true =>
    simp only [Bool.not_true, yar, if_false, q92, zr8 hu hv hf, hval, if_true, zaa, x0, x1, zab.asStr, zai, zen, q93, zve, zfg]; simp [h1, h2, zzj2]
    constructor <;> intro h <;> omega
  ·rw [if_pos (by omega)]; simp [h2]
 ·rw [if_pos (by omega)]; simp [h1]
def zs5 (f : zd5) : Bool := !f.n.neg && !f.d.neg && decide (f.n.limbs.length + f.d.limbs.length = 0)
theorem zqf {f : zd5} {u v : zab} (hu : RSl t 1 (zif f.n.limbs) u) (hv : RSl t 1 (zif f.d.limbs) v) (hf : f.ok) : pvC C13 F 54 [.agg [.bool f.n.neg, u, .bool f.d.neg, v]] t = some (.bool (zs5 f)) := by
 unfold zd5.ok zlk at hf; refine zaz.2 (w54 _ _ _ _ ?_)
 simp only [t54, wpT, hu.len, hv.len, zqb, zaa, zai]; unfold zs5; rw [wrap_i64 (by omega) (by omega), z1n]
 have e : decide ((f.n.limbs.length : Int) + (f.d.limbs.length : Int) = 0) = decide (f.n.limbs.length + f.d.limbs.length = 0) := by
  by_cases h : f.n.limbs.length + f.d.limbs.length = 0
  ·rw [decide_eq_true h, decide_eq_true (by omega)]
  ·rw [decide_eq_false h, decide_eq_false (by omega)]
 rw [e]
 cases f.n.neg <;> cases f.d.neg <;> simp
theorem z34 {n : Int} : pvC C13 F 55 [.int .i64 n] t = some (.bool (decide (0 <= n) && decide (n < 65536))) := by
 refine zaz.2 (w55 _ ?_)
 simp only [t55, wpT, zdc]; by_cases h : 0 <= n
 ·rw [if_pos h]; simp [h, zzj0]
 ·rw [if_neg h]; simp [h]
def zx5 (v : zzy) : Bool :=
 if v.kind = 2 \/ v.kind = 3 then decide (v.i = 0) && zra v.f
 else if v.kind = 1 then zs5 v.f && (decide (v.i = 0) || decide (v.i = 1))
 else if v.kind = 4 then zs5 v.f && (decide (0 <= v.i) && decide (v.i < 65536))
 else if v.kind = 5 \/ v.kind = 6 then zs5 v.f && (decide (-1048576 <= v.i) && decide (v.i <= 1048576))
 else false
theorem zn2 {a : zzy} {u v : zab} (hu : RSl t 1 (zif a.f.n.limbs) u) (hv : RSl t 1 (zif a.f.d.limbs) v) (hf : zd5.fit a.f) : pvC C13 F 27 [.agg [.int .u8 a.kind, .bool a.f.n.neg, u, .bool a.f.d.neg, v, .int .i64 a.i]] t = some (.bool (zx5 a)) := by
 refine zaz.2 (w27 _ _ _ _ _ _ ?_)
 simp only [t27, wpT, q53, zjs hu hv hf, q54, zqf hu hv hf.1, q55, z34, zaa, zab.asBool]; unfold zx5; have kk : ∀ j : Int, iEq (a.kind : Int) j = decide ((a.kind : Int) = j) := fun j => z1n
 simp only [kk]; by_cases k2 : a.kind = 2
 ·have e : (a.kind : Int) = 2 := by omega
  by_cases h0 : a.i = 0 <;> simp [e, k2, h0, z1n]
 by_cases k3 : a.kind = 3
 ·have e : (a.kind : Int) = 3 := by omega
  by_cases h0 : a.i = 0 <;> simp [e, k3, h0, z1n]
 have e2 : ¬ (a.kind : Int) = 2 := by omega
 have e3 : ¬ (a.kind : Int) = 3 := by omega
 by_cases k1 : a.kind = 1
 ·have e : (a.kind : Int) = 1 := by omega
  cases zs5 a.f <;> by_cases h0 : a.i = 0 <;> simp [e, k1, h0, z1n]
 have e1 : ¬ (a.kind : Int) = 1 := by omega
 by_cases k4 : a.kind = 4
 ·have e : (a.kind : Int) = 4 := by omega
  cases zs5 a.f <;> simp [e, k4]
 have e4 : ¬ (a.kind : Int) = 4 := by omega
 by_cases k5 : a.kind = 5
 ·have e : (a.kind : Int) = 5 := by omega
  cases zs5 a.f <;> by_cases h0 : (-1048576 : Int) <= a.i <;> simp [e, k5, h0, zzj2]
 have e5 : ¬ (a.kind : Int) = 5 := by omega
 by_cases k6 : a.kind = 6
 ·have e : (a.kind : Int) = 6 := by omega
  cases zs5 a.f <;> by_cases h0 : (-1048576 : Int) <= a.i <;> simp [e, k6, h0, zzj2]
 have e6 : ¬ (a.kind : Int) = 6 := by omega
 simp [e1, e2, e3, e4, e5, e6, k1, k2, k3, k4, k5, k6]
end Go.Proofs
namespace Go.Proofs
open Go Go.Am
variable [zcb]
variable {t : Tr zak}
structure Said (m : Int) (L : List Nat) : Prop where
 val : val 65536 L = m.natAbs
 lt : zax 65536 L
 len : L.length <= 3
 norm : L = [] \/ L.getLast? ≠ some 0
end Go.Proofs
namespace Go.Am
open Go Go.RowKit
section
variable {t tf : Tr zak} {C : Ctx}
theorem zln.pushL {T el sz n : Nat} (hT : ElTy C T el sz) {A B : List Thg} {l : List D} {d : D} {cs : List zab} {v x : zab} (h : zln C.base tf t (A ++ zgk C.base sz l v :: B)) (hx : zk4 t sz x [cs]) (hd : RD tf d cs) (hone : ∀ a ∈ cs, zab.one a = true) (hl : l.length < 300000) (hn : t.get n = none) (hbase : C.base <= n) :
  ∃ v2 k t2, zci C T T v x ⟨n, t⟩ = some (v2, ⟨k, t2⟩) /\ zln C.base tf t2 (A ++ zgk C.base sz (l ++ [d]) v2 :: B) := by
 have hv : znp C.base tf t sz l v := h.ok (zgk C.base sz l v) (by simp)
 obtain ⟨t2, c1, c2, c3, c4⟩ := zzm hT (m := [d]) hv hx (zba.2 ⟨cs, [], rfl, hd, zcr.2 rfl⟩) (by intro a ha; simp at ha; exact hone a ha) (by simp) (by simp; omega) hn hbase h.tle
 refine ⟨_, _, t2, c1, ?_⟩
 refine zln.upd (o := zgk C.base sz l v) h (fun k k1 k2 => c4 k ?_ (fun e => k1 (zp2.2 e))) (fun k hk => ?_) c2 (by simp [zgk, zzh7]) c3
 ·intro e; subst e; exact k2 (by simp [zgk, zzh7])
 ·have : k = n := by simpa [zgk, zzh7] using hk
  subst this; exact .inr ⟨hn, hbase⟩
end
end Go.Am
namespace Go.Am
open Go Go.RowKit
section
variable {t tf tf0 : Tr zak} {C : Ctx}
mutual
theorem RD.ones : ∀ (d : D) (cs : List zab), RD t d cs -> ∀ a ∈ cs, zab.one a = true
 | .int _ _, cs, h, a, ha => by rw [RD] at h; subst h; simp at ha; subst ha; rfl
 | .bool _, cs, h, a, ha => by rw [RD] at h; subst h; simp at ha; subst ha; rfl
 | .str _, cs, h, a, ha => by rw [RD] at h; subst h; simp at ha; subst ha; rfl
 | .sl sz l, cs, h, a, ha => by
  rw [zl8] at h; obtain ⟨v, rfl, h⟩ := h
  simp at ha; subst ha; exact h.one
 | .st l, cs, h, a, ha => by
  rw [zi2] at h; obtain ⟨cl, rfl, h⟩ := h
  exact RDs.ones l cl h a ha
theorem RDs.ones : ∀ (l : List D) (cl : List (List zab)), RDs t l cl -> ∀ a ∈ cl.flatten, zab.one a = true
 | [], cl, h, a, ha => by rw [RDs] at h; subst h; cases ha
 | d :: l, cl, h, a, ha => by
  rw [RDs] at h; obtain ⟨c, r, rfl, h1, h2⟩ := h
  rw [List.flatten_cons, List.mem_append] at ha; rcases ha with ha | ha
  ·exact RD.ones d c h1 a ha
  ·exact RDs.ones l r h2 a ha
end
theorem RD.all {d : D} {cs : List zab} (h : RD t d cs) : zd9 zab.one cs = true := by
 rw [zc3, ybc]; exact RD.ones d cs h
theorem RD.mk {d : D} {cs zs : List zab} (h : RD t d cs) (hz : d.zs = zs) : zg8 zs (cellsOf cs) 0 = cs := by
 have := zhe zs cs [] (by rw [<- hz]; exact zwk d cs h)
 simpa using this
theorem lit1 {S el sz b : Nat} {cs : List zab} (hT : ElTy C S el sz) (hc : cs.length = sz) (hs : sz < 1000000) (hb : t.get b = none) :
  ∃ t', za5 C S 1 [(0, .agg cs)] ⟨b, t⟩ = some (.slice b 0 1 1, ⟨b + 1, t'⟩) /\ zk4 t' sz (.slice b 0 1 1) [cs] /\ TLe t t' /\ Off b t t' := by
 obtain ⟨⟨y, hy1, hy2, _⟩, ⟨z, hz1, hz2, hz3, _, _⟩⟩ := hT
 refine zyl (n := 1) (cl := [cs]) hy1 hy2 hz1 hz2 hz3 (by omega) ?_ (fun i q hq => ?_) rfl hb
 ·have e : zvx z.zero 1 = z.zero := by show ze3 z.zero [] = z.zero; rw [zb7, ybe]
  rw [e]; unfold zm6 zl5; have e1 : (zab.agg cs).cells = cs := rfl
  rw [za1] at hz3; simp only [zac, e1, za1, hc, hz3, Nat.zero_mul, yax, zff, zf4, zb7, List.take_zero, List.nil_append]; rw [zcy.2 rfl, zh2.2 (yal sz)]
  simp only [Bool.and_self, zam, zac, zm6]; rw [yau (by omega)]
  simp
 ·rcases i with _ | i
  ·simp at hq; subst hq; exact hc
  ·simp at hq
end
end Go.Am
namespace Go.Am
open Go Go.RowKit
section
variable {C : Ctx} {t : Tr zak}
def zuo (C : Ctx) (T : Nat) (k : zab) : Bool :=
 match ob (C.tys.get T) fun ty => ob ty.desc.asMap fun ke => ob (C.tys.get ke.1) fun kty => zaj (zjv C kty && zfj C kty k) (some ()) with | some _ => true | none => false
theorem zrw {T : Nat} {k : zab} (h : zuo C T k = true) : ∃ ty ke kty, C.tys.get T = some ty /\ ty.desc.asMap = some ke /\ C.tys.get ke.1 = some kty /\ zjv C kty = true /\ zfj C kty k = true := by
 unfold zuo at h; split at h
 case h_2 => cases h
 rename_i u hu; simp only [zad, zae, yac] at hu; obtain ⟨ty, h1, ke, h2, kty, h3, ⟨h4, h5⟩, _⟩ := hu
 exact ⟨ty, ke, kty, h1, h2, h3, h4, h5⟩
theorem zzim {T b n : Nat} {k v : zab} {l l' : List (zab × zab)} (hk : zuo C T k = true) (hb : C.base <= b) (hm : t.get b = some (.map l)) (hs : zd1 k v l = some l') :
  zfr C T (.map b) k v ⟨n, t⟩ = some (zbh, ⟨n, t.set b (.map l')⟩) := by
 obtain ⟨ty, ke, kty, h1, h2, h3, h4, h5⟩ := zrw hk
 have e2 : (!Nat.blt b C.base) = true := by
  cases hq : Nat.blt b C.base with
  | true => have := zc8.1 hq; omega
  | false => rfl
 have e3 : zee ⟨n, t⟩ b = some l := by unfold zee; rw [hm]; rfl
 unfold zfr; rw [h1, zac, h2, zac, h3, zac, h4, zam]; simp only [zab.asMap, zac]; rw [e2, zam, e3, zac, h5, zam, hs]; rfl
theorem zzet {T b n : Nat} {k v : zab} {l : List (zab × zab)} (hk : zuo C T k = true) (hm : t.get b = some (.map l)) (hs : zhg k l = some (some v)) {ty : ATy} (hT : C.tys.get T = some ty) {ke : Nat × Nat} (hd : ty.desc.asMap = some ke) {ety : ATy} (he : C.tys.get ke.2 = some ety) (ok : Bool) :
  zh6 C T ⟨n, t⟩ (.map b) k ok = some (bif ok then .tup [v, .bool true] else v) := by
 obtain ⟨ty, ke, kty, h1, h2, h3, h4, h5⟩ := zrw hk
 rw [hT] at h1; cases h1; rw [hd] at h2; cases h2; have e3 : zee ⟨n, t⟩ b = some l := by unfold zee; rw [hm]; rfl
 unfold zh6; rw [hT, zac, hd, zac, h3, zac, h4, zam, he, zac]; have e4 : zrj ⟨n, t⟩ (.map b) = some l := by unfold zrj; simp only [zab.asMap]; exact e3
 rw [e4, zac, h5, zam, hs, zac]
mutual
theorem RD.sames1 : ∀ (d : D) (cs : List zab), RD t d cs -> ∀ a ∈ cs, ∀ k, Am.same k a a = true
 | .int _ _, cs, h, a, ha, k => by rw [RD] at h; subst h; simp at ha; subst ha; exact zvs
 | .bool _, cs, h, a, ha, k => by rw [RD] at h; subst h; simp at ha; subst ha; exact zxx
 | .str _, cs, h, a, ha, k => by rw [RD] at h; subst h; simp at ha; subst ha; exact zzd7
 | .sl sz l, cs, h, a, ha, k => by
  rw [zl8] at h; obtain ⟨v, rfl, h⟩ := h
  simp at ha; subst ha; exact h.same
 | .st l, cs, h, a, ha, k => by
  rw [zi2] at h; obtain ⟨cl, rfl, h⟩ := h
  exact RDs.sames1 l cl h a ha k
theorem RDs.sames1 : ∀ (l : List D) (cl : List (List zab)), RDs t l cl -> ∀ a ∈ cl.flatten, ∀ k, Am.same k a a = true
 | [], cl, h, a, ha, k => by rw [RDs] at h; subst h; cases ha
 | d :: l, cl, h, a, ha, k => by
  rw [RDs] at h; obtain ⟨c, r, rfl, h1, h2⟩ := h
  rw [List.flatten_cons, List.mem_append] at ha; rcases ha with ha | ha
  ·exact RD.sames1 d c h1 a ha k
  ·exact RDs.sames1 l r h2 a ha k
end
theorem zxw : ∀ {l : List zab} {k : Nat}, (∀ a ∈ l, ∀ k, Am.same k a a = true) -> Am.same.sames k l l = true
 | [], _, _ => rfl
 | a :: l, k, h => by
  rw [Am.same.sames, h a (.head _) k, zxw fun b hb => h b (.tail _ hb)]; rfl
theorem RD.sameA {d : D} {cs : List zab} (h : RD t d cs) {k : Nat} : Am.same (k + 1) (.agg cs) (.agg cs) = true := zxw (RD.sames1 d cs h)
theorem Cel.up {t' : Tr zak} {b : Nat} {lo : Option Lo} {cs : List zab} (h : Cel t b lo cs) (k : TLe t t') : Cel t' b lo cs := by
 obtain ⟨c, h1, h2⟩ := h
 exact ⟨c, k _ _ h1, h2⟩
theorem Cel.setOff {b n : Nat} {lo : Option Lo} {cs : List zab} (h : Cel t b lo cs) (hn : b ≠ n) (y : zak) : Cel (t.set n y) b lo cs := Cel.off h (by rw [Tr.get_set, if_neg hn])
end
end Go.Am
namespace Go.Proofs
open Go Go.Am
variable [zcb]
variable {t : Tr zak}
def zmz (n : Nat) : Bool := (decide (65 <= n) && decide (n <= 90)) || (decide (97 <= n) && decide (n <= 122))
def z33 (n : Nat) : Bool := decide (48 <= n) && decide (n <= 57)
def zr5 (n : Nat) : Bool := zmz n || z33 n || decide (n = 95)
theorem zzj1 {a b : Int} : iLe a b = decide (a <= b) := by
 by_cases h : a <= b
 ·rw [decide_eq_true h, zdc.2 h]
 ·rw [decide_eq_false h]
  cases hq : iLe a b with
  | true => exact absurd (zdc.1 hq) h
  | false => rfl
theorem zl1 {n : Nat} : pvC C13 F 79 [.int .u8 (n : Int)] t = some (.bool (zmz n)) := by
 refine zaz.2 (w79 _ ?_)
 simp only [t79, wpT, zzj1, decide_eq_true_eq]; unfold zmz; by_cases h1 : 65 <= n
 ·rw [if_pos (by omega)]
  by_cases h2 : n <= 90
  ·rw [if_pos (by omega)]; simp [h1, h2]
  ·rw [if_neg (by omega)]
   by_cases h3 : 97 <= n
   ·rw [if_pos (by omega)]
    have : decide ((n : Int) <= 122) = decide (n <= 122) := by congr 1; exact propext (by omega)
    simp [h1, h2, h3, this]
   ·rw [if_neg (by omega)]; simp [h2, h3]
 ·rw [if_neg (by omega), if_neg (by omega)]
  have : ¬ 97 <= n := by omega
  simp [h1, this]
theorem z6c {n : Nat} : pvC C13 F 112 [.int .u8 (n : Int)] t = some (.bool (z33 n)) := by
 refine zaz.2 (w112 _ ?_)
 simp only [t112, wpT, zzj1, decide_eq_true_eq]; unfold z33; by_cases h1 : 48 <= n
 ·rw [if_pos (by omega)]
  have : decide ((n : Int) <= 57) = decide (n <= 57) := by congr 1; exact propext (by omega)
  simp [h1, this]
 ·rw [if_neg (by omega)]; simp [h1]
theorem zzbi {n : Nat} : pvC C13 F 81 [.int .u8 (n : Int)] t = some (.bool (zr5 n)) := by
 refine zaz.2 (w81 _ ?_)
 simp only [t81, wpT, q79, zl1, zaa, zab.asBool]; unfold zr5
 cases h : zmz n with
 | true => simp
 | false =>
  simp only [yar, if_false, q112, z6c, zaa, zab.asBool]
  cases h2 : z33 n with
  | true => simp
  | false =>
   simp only [yar, if_false, z1n]; have : decide ((n : Int) = 95) = decide (n = 95) := by congr 1; exact propext (by omega)
   simp [this]
theorem zyx {s : List Nat} {i x : Nat} (h : s[i]? = some x) : zmb C13 9 (.str s) (.int .i64 (i : Int)) = some (.int .u8 (x : Int)) := by
 unfold zmb; rw [ty9, zac]; simp only [zab.asNat, zab.asInt, zab.asStr]; have e : ob (some (i : Int)) ziq = some i := rfl
 rw [e, zac, show zce.isString .string = true from rfl, zam, zbn, h, zac]; rfl
def zzd9 (p : Nat -> Bool) (s : List Nat) : List Nat := s.takeWhile p
theorem z3a {p : Nat -> Bool} {g : Nat} (hg : ∀ n : Nat, pvC C13 F g [.int .u8 (n : Int)] t = some (.bool (p n))) (hq : ∀ {a : List zab} {m : Tr zak} {R : zao}, Wq C13 F zay g a m R = zcf (pvC C13 F g a m) (fun v => R v m)) (hy : Nat.blt g yo = true) {s : List Nat} (hs : s.length < 4000000000000000000) :
  ∀ (k i : Nat), i + k = s.length -> (∀ j x, j < i -> s[j]? = some x -> p x = true) -> jp 80 2 [.str s, .func (.func g) [] [], .int .i64 (i : Int)] t (fun v t' => v = .str (zzd9 p s) /\ t' = t) := by
 have key : ∀ i, i <= s.length -> (∀ j x, j < i -> s[j]? = some x -> p x = true) -> (∀ x, s[i]? = some x -> p x = false) -> zzd9 p s = s.take i := by
  intro i hi h1 h2; unfold zzd9; induction s generalizing i with
  | nil => simp
  | cons a s ih =>
   cases i with
   | zero => rw [List.takeWhile_cons, h2 a rfl]; simp
   | succ i =>
    rw [List.takeWhile_cons, h1 0 a (by omega) rfl, if_pos rfl, List.take_succ_cons]
    rw [ih (by simp at hs; omega) i (by simpa using hi) (fun j x hj hx => h1 (j + 1) x (by omega) (by simpa using hx)) (fun x hx => h2 x (by simpa using hx))]
 intro k; induction k with
 | zero =>
  intro i hi hp; refine j80_2 _ _ _ ?_
  simp only [zziv, wpT, zbo, zfg]; rw [if_neg (by omega), zvn (by omega), zaa]
  simp only [zab.asStr, zaa]; rw [key i (by omega) hp (fun x hx => by have := (yad.1 hx).1; omega)]
  first | exact ⟨rfl, rfl⟩ | exact ⟨rfl, trivial⟩ | exact ⟨trivial, trivial⟩
 | succ k ih =>
  intro i hi hp; have hx : s[i]? = some s[i] := yae (by omega)
  refine j80_2 _ _ _ ?_
  simp only [zziv, wpT, zbo, zfg]; rw [if_pos (by omega), zyx hx, zaa, zai, zaa]
  have e : zpq (.func (.func g) [] []) [.int .u8 (s[i] : Int)] = some (g, [.int .u8 (s[i] : Int)]) := by
   unfold zpq; simp only [zab.asFunc, zac, hy, zam]; rfl
  rw [e, zaa]; simp only []; rw [hq, hg, zaa]; simp only [zab.asBool, zaa]
  cases hb : p s[i] with
  | true =>
   rw [if_pos rfl, wrap_i64 (by omega) (by omega), show (i : Int) + 1 = ((i + 1 : Nat) : Int) by omega]
   refine ih (i + 1) (by omega) fun j x hj hjx => ?_
   by_cases e : j = i
   ·subst e; rw [hx] at hjx; cases hjx; exact hb
   ·exact hp j x (by omega) hjx
  | false =>
   rw [if_neg (by simp), zvn (by omega), zaa]
   simp only [zab.asStr, zaa]; rw [key i (by omega) hp (fun x hx' => by rw [hx] at hx'; cases hx'; exact hb)]
   first | exact ⟨rfl, rfl⟩ | exact ⟨rfl, trivial⟩ | exact ⟨trivial, trivial⟩
theorem zzd8 {s : List Nat} (hs : s.length < 4000000000000000000) : pvC C13 F 80 [.str s, .func (.func 81) [] []] t = some (.str (zzd9 zr5 s)) := by
 refine zaz.2 (w80 _ _ ?_)
 simp only [t80, wpT]; exact z3a (fun n => zzbi) (fun {a m R} => q81) rfl hs s.length 0 (by omega) (fun j x hj => by omega)
theorem zzi0 {s : List Nat} (hs : s.length < 4000000000000000000) : pvC C13 F 80 [.str s, .func (.func 79) [] []] t = some (.str (zzd9 zmz s)) := by
 refine zaz.2 (w80 _ _ ?_)
 simp only [t80, wpT]; exact z3a (fun n => zl1) (fun {a m R} => q79) rfl hs s.length 0 (by omega) (fun j x hj => by omega)
def resW : Nat -> List Nat
 | 2 => [32, 116, 111, 32, 105, 115, 32, 97, 116, 32, 105, 102, 32, 111, 114, 32, 117, 112, 32]
 | 3 => [32, 100, 101, 102, 32, 114, 111, 119, 32, 111, 110, 101, 32, 116, 119, 111, 32, 101, 110, 100, 32, 111, 102, 102, 32, 104, 97, 115, 32, 109, 105, 110, 32, 109, 97, 120, 32, 97, 110, 100, 32, 110, 111, 116, 32]
 | 4 => [32, 112, 108, 97, 110, 32, 102, 97, 99, 116, 32, 102, 114, 111, 109, 32, 119, 104, 101, 110, 32, 116, 104, 101, 110, 32, 100, 97, 116, 101, 32, 100, 97, 121, 115, 32, 116, 114, 117, 101, 32, 108, 111, 111, 107, 32, 98, 101, 115, 116, 32, 103, 114, 111, 119, 32, 100, 111, 119, 110, 32, 99, 101, 105, 108, 32, 104, 97, 108, 102, 32, 101, 118, 101, 110, 32]
 | 5 => [32, 116, 97, 98, 108, 101, 32, 107, 110, 111, 119, 110, 32, 116, 114, 117, 116, 104, 32, 109, 111, 110, 101, 121, 32, 102, 97, 108, 115, 101, 32, 109, 105, 110, 117, 115, 32, 116, 111, 100, 97, 121, 32, 114, 111, 117, 110, 100, 32, 115, 116, 97, 114, 116, 32, 102, 108, 111, 111, 114, 32]
 | 6 => [32, 99, 108, 97, 117, 115, 101, 32, 110, 117, 109, 98, 101, 114, 32, 109, 111, 110, 116, 104, 115, 32]
 | 7 => [32, 98, 101, 116, 119, 101, 101, 110, 32, 115, 101, 114, 118, 105, 99, 101, 32]
 | _ => []
def zq6 (s : List Nat) : Bool := decide (2 <= s.length) && decide (s.length <= 7) && zes (zzd9 zmz s) s && zhi ([32] ++ s ++ [32]) (resW s.length)
def zol (n : Nat) : zab × zab := (.int .i64 (n : Int), .str (resW n))
theorem z18 {a b : List Nat} (h : a.length < 4294967281) : pvC C13 F 113 [.str a, .str b] t = some (.bool (zhi b a)) := by
 have hg : C13.prims.get 113 = some (zk2 zim) := by kernel_rfl
 refine zv0 hg fun H => ?_
 unfold zim; simp only []; rw [za1, zc8.2 h]; rfl
theorem z0x {s : List Nat} (hs : s.length < 4000000000000000000) : pvC C13 F 82 [.str s] t = some (.bool (zq6 s)) := by
 refine ztc (w82 _ ?_)
 simp only [t82, wpT, zbo, zfg]; unfold zq6; by_cases h1 : 2 <= s.length
 ·rw [if_neg (by omega)]
  by_cases h2 : s.length <= 7
  ·rw [if_neg (by omega)]
   simp only [q80, zzi0 hs, zaa, zab.asStr]
   cases h3 : zes (zzd9 zmz s) s with
   | false => simp
   | true =>
    simp only [Bool.not_true, yar, if_false]; intro b hb hbase; have hmk : zpu ⟨b, t⟩ = some (.map b, ⟨b + 1, t.set b (.map [])⟩) := rfl
    rw [hmk, zaa]; simp only []; have h0 : (t.set b (.map [])).get b = some (.map []) := by rw [Tr.get_set, if_pos rfl]
    have ho : Off b t (t.set b (.map [])) := fun c hc => by rw [Tr.get_set, if_neg hc]
    generalize t.set b (.map []) = t1 at h0 ho
    have hstep : ∀ (l : List (zab × zab)) (k : Nat) (s' : List Nat) (l' : List (zab × zab)) (Q : (zab × zaf) -> Prop) (t1 : Tr zak), t1.get b = some (.map l) -> Off b t t1 -> zd1 (.int .i64 (k : Int)) (.str s') l = some l' -> zuo C13 180 (.int .i64 (k : Int)) = true →
      (∀ n t2, t2.get b = some (.map l') -> Off b t t2 -> Q (zbh, ⟨n, t2⟩)) -> ∀ n, t1.get n = none -> C13.base <= n -> zcf (zfr C13 180 (.map b) (.int .i64 (k : Int)) (.str s') ⟨n, t1⟩) Q := by
     intro l k s' l' Q t1 g1 g2 h1 h2 h3 n _ _; rw [zzim h2 hbase g1 h1, zaa]; exact h3 n _ (by rw [Tr.get_set, if_pos rfl]) fun c hc => by rw [Tr.get_set, if_neg hc]; exact g2 c hc
    refine hstep [] 2 _ [zol 2] _ t1 h0 ho rfl (by kernel_rfl) fun n t2 g o => ?_
    refine hstep _ 3 _ [zol 2, zol 3] _ t2 g o rfl (by kernel_rfl) fun n t2 g o => ?_
    refine hstep _ 4 _ [zol 2, zol 3, zol 4] _ t2 g o rfl (by kernel_rfl) fun n t2 g o => ?_
    refine hstep _ 5 _ [zol 2, zol 3, zol 4, zol 5] _ t2 g o rfl (by kernel_rfl) fun n t2 g o => ?_
    refine hstep _ 6 _ [zol 2, zol 3, zol 4, zol 5, zol 6] _ t2 g o rfl (by kernel_rfl) fun n t2 g o => ?_
    refine hstep _ 7 _ [zol 2, zol 3, zol 4, zol 5, zol 6, zol 7] _ t2 g o rfl (by kernel_rfl) fun n t2 g o => ?_
    have hle : TLe t t2 := fun c u hc => by
     have : c ≠ b := fun e => by rw [e, hb] at hc; cases hc
     rw [o c this]; exact hc
    have hl : zh6 C13 180 ⟨0, t2⟩ (.map b) (.int .i64 (s.length : Int)) false = some (.str (resW s.length)) := by
     have hk : zuo C13 180 (.int .i64 (s.length : Int)) = true /\ zhg (.int .i64 (s.length : Int)) [zol 2, zol 3, zol 4, zol 5, zol 6, zol 7] = some (some (.str (resW s.length))) := by
      have : s.length = 2 \/ s.length = 3 \/ s.length = 4 \/ s.length = 5 \/ s.length = 6 \/ s.length = 7 := by omega
      rcases this with e | e | e | e | e | e <;> rw [e] <;> exact ⟨by kernel_rfl, rfl⟩
     exact zzet hk.1 g hk.2 ty180 rfl ty9 false
    rw [hl, zaa]; simp only [zab.asStr, zaa]; rw [zeh (by simp; omega), zaa]
    simp only [zab.asStr, zaa]; rw [zeh (by simp; omega), zaa]
    simp only [zab.asStr, zaa]; have hr : (resW s.length).length < 4294967281 := by
     have : s.length = 2 \/ s.length = 3 \/ s.length = 4 \/ s.length = 5 \/ s.length = 6 \/ s.length = 7 := by omega
     rcases this with e | e | e | e | e | e <;> rw [e] <;> decide
    rw [q113, z18 hr, zaa]; simp only [zab.asBool, zaa]; refine ⟨?_, hle⟩
    simp [h1, h2]
  ·rw [if_pos (by omega)]; simp [h2]
 ·rw [if_pos (by omega)]; simp [h1]
def zi8 (s : List Nat) : Bool := match s with
 | [] => false
 | x :: r => decide ((x :: r).length <= 24) && zmz x && zes (zzd9 zr5 (x :: r)) (x :: r) && !zq6 (x :: r)
theorem zn7 {s : List Nat} : pvC C13 F 38 [.str s] t = some (.bool (zi8 s)) := by
 refine zaz.2 (w38 _ ?_)
 simp only [t38, wpT, zbo, zfg]
 cases s with
 | nil => simp [zi8, zek]
 | cons x r =>
  have h0 : zes (x :: r) [] = false := by
   cases h : zes (x :: r) [] with
   | true => rw [zek] at h; cases h
   | false => rfl
  rw [h0]; simp only [yar, if_false]; unfold zi8; by_cases h1 : (x :: r).length <= 24
  ·rw [if_neg (by omega)]
   have hx := zyx (s := x :: r) (i := 0) (x := x) rfl
   rw [show ((0 : Nat) : Int) = 0 from rfl] at hx
   rw [hx, zaa, zai, zaa, q79, zl1, zaa]; simp only [zab.asBool, zaa]
   cases h2 : zmz x with
   | false => simp
   | true =>
    simp only [Bool.not_true, yar, if_false]; rw [q80, zzd8 (by omega), zaa]
    simp only [zab.asStr, zaa]
    cases h3 : zes (zzd9 zr5 (x :: r)) (x :: r) with
    | false => simp
    | true =>
     simp only [if_true, q82, z0x (s := x :: r) (by omega), zaa, zab.asBool]
     simp only [decide_eq_true h1, ybo, Bool.and_self]; first | exact ⟨rfl, rfl⟩ | exact ⟨rfl, trivial⟩ | exact ⟨trivial, trivial⟩
  ·rw [if_pos (by omega)]
   simp only [decide_eq_false h1, Bool.false_and]; first | exact ⟨rfl, rfl⟩ | exact ⟨rfl, trivial⟩ | exact ⟨trivial, trivial⟩
end Go.Proofs
namespace Go.Am
open Go Go.RowKit
section
variable {base : Nat} {W J : zhn} {t : Tr zak} {Q : zao}
theorem zat {b : Bool} {x y : T} (h : b = true) (k : wpT base W J x t Q) : wpT base W J (.ite b x y) t Q := by
 show if b = true then _ else _; rw [if_pos h]; exact k
theorem zbv {b : Bool} {x y : T} (h : b ≠ true) (k : wpT base W J y t Q) : wpT base W J (.ite b x y) t Q := by
 show if b = true then _ else _; rw [if_neg h]; exact k
theorem za8 {x : Option zab} {K : zab -> T} {v : zab} (h : x = some v) (k : wpT base W J (K v) t Q) : wpT base W J (.opt x K) t Q := by
 show zcf x _; rw [h]; exact k
theorem za9 {x : Tr zak -> Option zab} {K : zab -> T} {v : zab} (h : x t = some v) (k : wpT base W J (K v) t Q) : wpT base W J (.light x K) t Q := by
 show zcf (x t) _; rw [h]; exact k
theorem za6 {f : Nat} {a : List zab} {K : zab -> T} (k : W f a t (fun v t' => wpT base W J (K v) t' Q)) : wpT base W J (.call f a K) t Q := k
theorem zc2 {n : Int} {i : IntKind} {K : Int -> T} (k : wpT base W J (K n) t Q) : wpT base W J (.asI i (.int i n) K) t Q := by
 show zcf (zzjx i (.int i n)) _; rw [zai]; exact k
theorem zbe {b : Bool} {K : Bool -> T} (k : wpT base W J (K b) t Q) : wpT base W J (.asB (.bool b) K) t Q := k
theorem zgc {s : List Nat} {K : List Nat -> T} (k : wpT base W J (K s) t Q) : wpT base W J (.asS (.str s) K) t Q := k
theorem zlb {zs : List zab} {a : zab} {K : zpr -> T} {X : zpr} (h : z7b zs a = some X) (k : wpT base W J (K X) t Q) : wpT base W J (.asG zs a K) t Q := by
 show zcf (z7b zs a) _; rw [h]; exact k
theorem zb9 {x : zaf -> Option (zab × zaf)} {K : zab -> T} (k : ∀ b, t.get b = none -> base <= b -> ∃ v H, x ⟨b, t⟩ = some (v, H) /\ wpT base W J (K v) H.t Q) : wpT base W J (.heavy x K) t Q := by
 intro b h1 h2; obtain ⟨v, H, h3, h4⟩ := k b h1 h2
 rw [h3]; exact h4
theorem zcw {i : Nat} {a : List zab} (k : J i a t Q) : wpT base W J (.jump i a) t Q := k
end
section
variable {t : Tr zak} {C : Ctx}
end
end Go.Am
namespace Go.Proofs
open Go Go.Am
variable [zcb]
variable {t : Tr zak}
def zz0 (v : zzy) : Bool := decide (v.kind = 0) && decide (v.i = 0) && zs5 v.f
theorem zou {a : zzy} {u v : zab} (hu : RSl t 1 (zif a.f.n.limbs) u) (hv : RSl t 1 (zif a.f.d.limbs) v) (hf : a.f.ok) : pvC C13 F 39 [.agg [.int .u8 a.kind, .bool a.f.n.neg, u, .bool a.f.d.neg, v, .int .i64 a.i]] t = some (.bool (zz0 a)) := by
 refine zaz.2 (w39 _ _ _ _ _ _ ?_)
 simp only [t39, wpT, zen]; unfold zz0; by_cases h1 : a.kind = 0
 ·rw [if_pos (by omega)]
  by_cases h2 : a.i = 0
  ·rw [if_pos h2, q54, zqf hu hv hf, zaa]
   simp only [zab.asBool, zaa, decide_eq_true h1, decide_eq_true h2, ybo]; first | exact ⟨rfl, rfl⟩ | exact ⟨rfl, trivial⟩ | exact ⟨trivial, trivial⟩
  ·rw [if_neg h2]; simp [h2]
 ·rw [if_neg (by omega)]; simp [h1]
structure FM where
 style : Nat
 word : List Nat
 named : Bool
 least : Nat
 most : Nat
 level : Nat
 left : Nat
 right : Nat
def FM.cs (f : FM) : List zab := [.int .u8 f.style, .str f.word, .bool f.named, .int .i64 f.least, .int .i64 f.most, .int .i64 f.level, .int .i64 f.left, .int .i64 f.right]
def atF (w : List Nat) : FM := ⟨3, w, true, 1, 1, 7, 7, 7⟩
def znd (w : List Nat) (n : Bool) (a b : Nat) : FM := ⟨6, w, n, a, b, 7, 1, 1⟩
def ztd (w : List Nat) (a b c : Nat) : FM := ⟨4, w, false, 2, 2, a, b, c⟩
def zzj8 : List FM := [⟨0, [], false, 0, 0, 0, 0, 0⟩, ⟨1, [], false, 0, 0, 7, 0, 0⟩, ⟨2, [116, 111, 100, 97, 121], false, 0, 0, 7, 0, 0⟩, atF [102, 97, 99, 116, 32], atF [104, 97, 115, 32], atF [], znd [108, 111, 111, 107] true 1 2, ztd [43] 5 5 6, ztd [45] 5 5 6, ztd [42] 6 6 7, ztd [47] 6 6 7,
 znd [109, 105, 110] false 2 2, znd [109, 97, 120] false 2 2, ztd [60] 4 5 5, ztd [61] 4 5 5, ztd [97, 110, 100] 2 2 3, ztd [111, 114] 1 1 2, ⟨5, [110, 111, 116, 32], false, 1, 1, 3, 3, 3⟩, znd [105, 102] false 3 3, znd [114, 111, 117, 110, 100] false 2 2, znd [98, 101, 116, 119, 101, 101, 110] false 2 2,
 znd [115, 101, 114, 118, 105, 99, 101] true 2 2, znd [98, 101, 115, 116] true 3 3, znd [103, 114, 111, 119] true 2 2, znd [109, 111, 110, 116, 104, 115] false 1 1, znd [110, 117, 109, 98, 101, 114] false 1 1, znd [115, 116, 97, 114, 116] false 1 1]
def zpp : List zab := (zzj8.map FM.cs).flatten
abbrev z8 : List zab := [.int .u8 0, .str [], .bool false, .int .i64 0, .int .i64 0, .int .i64 0, .int .i64 0, .int .i64 0]
theorem cv76 {w : List Nat} {n : Bool} {a b : Nat} {K : zpr -> T} {Q : zao} (h : wp 37 (K (cellsOf (znd w n a b).cs)) t Q) : wp 37 (.callv (.func (.func 76) [] []) [.str w, .bool n, .int .i64 (a : Int), .int .i64 (b : Int)] fun a => .asG z8 a K) t Q := by
 have e : pvC C13 F 76 [.str w, .bool n, .int .i64 (a : Int), .int .i64 (b : Int)] t = some (.agg (znd w n a b).cs) := by
  refine zaz.2 (w76 _ _ _ _ ?_)
  simp only [t76, wpT, if_true]; constructor <;> trivial
 show zcf (some (76, [zab.str w, .bool n, .int .i64 (a : Int), .int .i64 (b : Int)])) _
 rw [zaa]; simp only []; rw [q76, e, zaa]; exact h
theorem cv77 {w : List Nat} {K : zpr -> T} {Q : zao} (h : wp 37 (K (cellsOf (atF w).cs)) t Q) : wp 37 (.callv (.func (.func 77) [] []) [.str w] fun a => .asG z8 a K) t Q := by
 have e : pvC C13 F 77 [.str w] t = some (.agg (atF w).cs) := by
  refine zaz.2 (w77 _ ?_)
  simp only [t77, wpT, if_true]; constructor <;> trivial
 show zcf (some (77, [zab.str w])) _
 rw [zaa]; simp only []; rw [q77, e, zaa]; exact h
theorem cv78 {w : List Nat} {a b c : Nat} {K : zpr -> T} {Q : zao} (h : wp 37 (K (cellsOf (ztd w a b c).cs)) t Q) : wp 37 (.callv (.func (.func 78) [] []) [.str w, .int .i64 (a : Int), .int .i64 (b : Int), .int .i64 (c : Int)] fun a => .asG z8 a K) t Q := by
 have e : pvC C13 F 78 [.str w, .int .i64 (a : Int), .int .i64 (b : Int), .int .i64 (c : Int)] t = some (.agg (ztd w a b c).cs) := by
  refine zaz.2 (w78 _ _ _ _ ?_)
  simp only [t78, wpT, if_true]; constructor <;> trivial
 show zcf (some (78, [zab.str w, .int .i64 (a : Int), .int .i64 (b : Int), .int .i64 (c : Int)])) _
 rw [zaa]; simp only []; rw [q78, e, zaa]; exact h
theorem z1c {Q : zao} (h : ∀ b t', t.get b = none -> C13.base <= b -> Cel t' b none zpp -> TLe t t' -> Off b t t' -> Q (.ptr b 0) t') : Wc C13 F 37 [] t Q := by
 refine w37 ?_
 unfold t37; repeat (first | refine cv76 ?_ | refine cv77 ?_ | refine cv78 ?_ | refine zat rfl ?_)
 intro b hb hbase; obtain ⟨t', h1, h2, h3, h4⟩ := zly hb zpp none
 have e : ∀ l : List zab, l = zpp -> z0e (.agg l) ⟨b, t⟩ = some (.ptr b 0, ⟨b + 1, t'⟩) := by
  intro l hl; show some (zab.ptr b 0, za0 ⟨b, t⟩ l none) = _
  rw [hl, h1]
 rw [e _ (by rfl), zaa]
 exact h b t' hb hbase h2 h3 h4
theorem zwa {Q : zao} (h : ∀ b t', t.get b = none -> C13.base <= b -> Cel t' b none zpp -> TLe t t' -> Off b t t' -> Q (.agg [.ptr b 0]) t') : Wc C13 F 17 [] t Q := by
 refine w17 ?_
 unfold t17; refine za6 ?_
 rw [q37]; refine z1c fun b t' h1 h2 h3 h4 h5 => ?_
 refine zat rfl (zat rfl ?_)
 exact h b t' h1 h2 h3 h4 h5
end Go.Proofs
namespace Go.Proofs
open Go Go.Am
variable [zcb]
variable {t : Tr zak}
def ziy (op : Nat) : FM := zzj8.getD op ⟨0, [], false, 0, 0, 0, 0, 0⟩
theorem zku {f : FM -> List zab} (hf : ∀ x, (f x).length = 8) : ∀ (l : List FM) (i k : Nat), i < l.length -> k < 8 -> (l.map f).flatten[i * 8 + k]? = (f (l.getD i ⟨0, [], false, 0, 0, 0, 0, 0⟩))[k]?
 | [], i, k, h, _ => by simp at h
 | x :: l, 0, k, h, hk => by
  rw [ybn, List.flatten_cons, ybp (by rw [hf]; omega)]
  simp
 | x :: l, i + 1, k, h, hk => by
  rw [ybn, List.flatten_cons, yaq (by rw [hf]; omega), hf, show (i + 1) * 8 + k - 8 = i * 8 + k by omega]
  rw [zku hf l i k (by simpa using h) hk]
  simp
theorem zm4 {op k : Nat} (h : op < 27) (hk : k < 8) : zpp[op * 8 + k]? = (ziy op).cs[k]? := zku (f := FM.cs) (fun _ => rfl) zzj8 op k h hk
theorem idx147 {b op : Nat} (h : op < 27) : zah C13 147 (.ptr b 0) (.int .u8 (op : Int)) = some (.ptr b (op * 8)) := by
 have hA : ob (C13.tys.get 147) (fun y => y.desc.asArr) = some (27, 106) := by kernel_rfl
 rw [zad] at hA; obtain ⟨y, hy, hd⟩ := hA
 unfold zah; rw [hy, zac]; have e : (zab.int .u8 (op : Int)).asNat = some op := rfl
 rw [e, zac]; simp only [zab.asSlice, zab.asPtr, zac, hd]; rw [ty106, zac, zc8.2 h, zam]; simp
theorem z6p {b o k : Nat} (hk : k < 8) : za4 C13 106 k (.ptr b o) = some (.ptr b (o + k)) := by
 have h : zg2 C13 106 k = some k := by
  unfold zg2; rw [ty106, zac]; simp only [zce.asStruct, zac]; have : k = 0 \/ k = 1 \/ k = 2 \/ k = 3 \/ k = 4 \/ k = 5 \/ k = 6 \/ k = 7 := by omega
  rcases this with e | e | e | e | e | e | e | e <;> rw [e] <;> rfl
 unfold za4; rw [h]; rfl
section
variable {b op : Nat} (hF : Cel t b none zpp) (h : op < 27)
include hF h
theorem zze2 : zau C13 5 ⟨0, t⟩ (.ptr b (op * 8 + 0)) = some (.int .u8 (ziy op).style) := hF.load1 ty5 rfl (by rw [zm4 h (by decide)]; rfl)
theorem zze3 : zau C13 4 ⟨0, t⟩ (.ptr b (op * 8 + 2)) = some (.bool (ziy op).named) := hF.load1 ty4 rfl (by rw [zm4 h (by decide)]; rfl)
theorem zze4 : zau C13 3 ⟨0, t⟩ (.ptr b (op * 8 + 3)) = some (.int .i64 (ziy op).least) := hF.load1 ty3 rfl (by rw [zm4 h (by decide)]; rfl)
theorem zzjm : zau C13 3 ⟨0, t⟩ (.ptr b (op * 8 + 4)) = some (.int .i64 (ziy op).most) := hF.load1 ty3 rfl (by rw [zm4 h (by decide)]; rfl)
end
theorem nEq {a b : Int} (h : a ≠ b) : iEq a b ≠ true := fun e => h (zen.1 e)
theorem nLt {a b : Int} (h : ¬ a < b) : iLt a b ≠ true := fun e => h (zbo.1 e)
theorem nLe {a b : Int} (h : ¬ a <= b) : iLe a b ≠ true := fun e => h (zdc.1 e)
theorem yEq {a b : Int} (h : a = b) : iEq a b = true := zen.2 h
theorem yLt {a b : Int} (h : a < b) : iLt a b = true := zbo.2 h
theorem yLe {a b : Int} (h : a <= b) : iLe a b = true := zdc.2 h
theorem zf2 {b o : Nat} : z2u (.ptr b o) = some (.ptr b o) := rfl
def zzj3 (op : Nat) (name : List Nat) (n : Nat) : Bool :=
 decide (op < 27) && !decide ((ziy op).style = 0) && decide ((ziy op).least <= n) && decide (n <= (ziy op).most) && (if (ziy op).named = true then zi8 name else zes name [])
def z4s (op : Nat) (v : zzy) : Bool := if op = 19 then decide (1 <= v.i) && decide (v.i <= 6) && zz0 { v with i := 0 } else zz0 v
mutual
/-- is an expression printable at a depth? -/
def zwp : zcl -> Nat -> Bool
 | .mk op name v args, d => decide (d <= 24) && zzj3 op name args.length && (if op = 1 then zx5 v else z4s op v && zzcy args (d + 1))
def zzcy : List zcl -> Nat -> Bool
 | [], _ => true
 | x :: l, d => zwp x d && zzcy l d
end
def zzgu (p0_0 : zab) (p1_0 : Int) (p1_1 : List Nat) (p1_2 : Int) (p1_3 : Bool) (p1_4 : zab) (p1_5 : Bool) (p1_6 : zab) (p1_7 : Int) (p1_8 : zab) (p2 : Int) : T :=
 .ite (zd9 zab.one [(.int .u8 p1_2), (.bool p1_3), p1_4, (.bool p1_5), p1_6, (.int .i64 p1_7)]) (.ite (iEq p1_0 1)
 (.call 27 [(.agg [(.int .u8 p1_2), (.bool p1_3), p1_4, (.bool p1_5), p1_6, (.int .i64 p1_7)])] fun a28 =>
 .asB a28 fun b29 => .ret (.bool b29))
 (.ite (iEq p1_0 19)
 (.ite (iLt p1_7 1)
 (.ret (.bool false))
 (.ite (iLt 6 p1_7)
 (.ret (.bool false))
 (.ite true (.jump 33 [(.int .i64 p2), p0_0, (.int .u8 p1_0), (.str p1_1), (.int .u8 p1_2), (.bool p1_3), p1_4, (.bool p1_5), p1_6, (.int .i64 p1_7), p1_8, (.int .u8 p1_2), (.bool p1_3), p1_4, (.bool p1_5), p1_6, (.int .i64 0)]) .fail)))
 (.jump 33 [(.int .i64 p2), p0_0, (.int .u8 p1_0), (.str p1_1), (.int .u8 p1_2), (.bool p1_3), p1_4, (.bool p1_5), p1_6, (.int .i64 p1_7), p1_8, (.int .u8 p1_2), (.bool p1_3), p1_4, (.bool p1_5), p1_6, (.int .i64 p1_7)]))) .fail
section
variable {op : Nat} {name : List Nat} {v : zzy} {a b c : zab} {bf d : Nat}
theorem z4r {v2 : Int} {v' : zzy} {R : Bool} {n : Nat} {c3 : zab} (ha : RSl t 1 (zif v'.f.n.limbs) a) (hb : RSl t 1 (zif v'.f.d.limbs) b) (hf : v'.f.ok) (hc : zbm c = some (.int .i64 (n : Int)))
  (hargs : jp 18 4 [.int .i64 v2, c, .int .i64 (n : Int), .int .i64 0, c3] t (fun x t' => x = .bool R /\ t' = t)) (p3 : Bool) (p5 : Bool) (p2 p7 : Int) (p4 p6 : zab) :
  jp 18 33 [.int .i64 v2, c3, .int .u8 (op : Int), .str name, .int .u8 p2, .bool p3, p4, .bool p5, p6, .int .i64 p7, c, .int .u8 v'.kind, .bool v'.f.n.neg, a, .bool v'.f.d.neg, b, .int .i64 v'.i] t (fun x t' => x = .bool (zz0 v' && R) /\ t' = t) := by
 refine j18_33 _ _ _ _ _ _ _ _ _ _ _ _ _ _ _ _ _ ?_
 simp only [zzg5, wpT, q39, zou ha hb hf, zaa, zab.asBool]
 cases hz : zz0 v' with
 | false => simp
 | true =>
  simp only [Bool.not_true, yar, if_false, hc, zaa, zai, ybo]; exact hargs
theorem zzip {n : Nat} {R : Bool} (ha : RSl t 1 (zif v.f.n.limbs) a) (hb : RSl t 1 (zif v.f.d.limbs) b) (hf : zd5.fit v.f) (hc : zbm c = some (.int .i64 (n : Int)))
  (hargs : jp 18 4 [.int .i64 (d : Int), c, .int .i64 (n : Int), .int .i64 0, .ptr bf 0] t (fun x t' => x = .bool R /\ t' = t)) :
  wp 18 (zzgu (.ptr bf 0) (op : Int) name (v.kind : Int) v.f.n.neg a v.f.d.neg b v.i c (d : Int)) t (fun x t' => x = .bool (if op = 1 then zx5 v else z4s op v && R) /\ t' = t) := by
 unfold zzgu; refine zat ?_ ?_
 ·rw [zc3]; simp only [ybh, ybl, ha.one, hb.one]; rfl
 by_cases h1 : op = 1
 ·refine zat (yEq (by omega)) ?_
  simp only [wpT, q27, zn2 ha hb hf, zaa, zab.asBool, if_pos h1]; constructor <;> trivial
 ·refine zbv (nEq (by omega)) ?_
  simp only [if_neg h1]; unfold z4s; by_cases h2 : op = 19
  ·refine zat (yEq (by omega)) ?_
   simp only [if_pos h2]; by_cases h3 : 1 <= v.i
   ·refine zbv (nLt (by omega)) ?_
    by_cases h4 : v.i <= 6
    ·refine zbv (nLt (by omega)) (zat rfl ?_)
     have := z4r (op := op) (name := name) (v' := { v with i := 0 }) ha hb hf.1 hc hargs v.f.n.neg v.f.d.neg v.kind v.i a b
     simp only [decide_eq_true h3, decide_eq_true h4, ybo]; exact this
    ·refine zat (yLt (by omega)) ?_
     simp [wpT, h4]
   ·refine zat (yLt (by omega)) ?_
    simp [wpT, h3]
  ·refine zbv (nEq (by omega)) ?_
   simp only [if_neg h2]; exact z4r (op := op) (name := name) (v' := v) ha hb hf.1 hc hargs v.f.n.neg v.f.d.neg v.kind v.i a b
theorem zzfk {n : Nat} {R : Bool} (hF : Cel t bf none zpp) (hop : op < 256) (hn : n < zlk) (hnl : name.length < zlk) (ha : RSl t 1 (zif v.f.n.limbs) a) (hb : RSl t 1 (zif v.f.d.limbs) b) (hf : zd5.fit v.f) (hc : zbm c = some (.int .i64 (n : Int)))
  (hargs : d <= 24 -> jp 18 4 [.int .i64 (d : Int), c, .int .i64 (n : Int), .int .i64 0, .ptr bf 0] t (fun x t' => x = .bool R /\ t' = t)) :
  pvC C13 F 18 [.agg [.ptr bf 0], .agg [.int .u8 op, .str name, .int .u8 v.kind, .bool v.f.n.neg, a, .bool v.f.d.neg, b, .int .i64 v.i, c], .int .i64 (d : Int)] t = some (.bool (decide (d <= 24) && zzj3 op name n && (if op = 1 then zx5 v else z4s op v && R))) := by
 refine zaz.2 (w18 _ _ _ _ _ _ _ _ _ _ _ ?_)
 unfold t18 zzj3; by_cases hd : d <= 24
 case neg =>
  refine zat (yLt (by omega)) ?_
  simp [wpT, hd]
 refine zbv (nLt (by omega)) ?_
 have htail := zzip (op := op) (name := name) (d := d) (bf := bf) ha hb hf hc (hargs hd)
 by_cases h27 : op < 27
 case neg =>
  refine zat (by rw [wrap_i64 (by omega) (by omega)]; exact yLe (by omega)) ?_
  simp [wpT, h27]
 refine zbv (by rw [wrap_i64 (by omega) (by omega)]; exact nLe (by omega)) ?_
 refine za8 zf2 (za8 (idx147 h27) (za8 zf2 (za8 (z6p (by decide)) (za9 (zze2 hF h27) (zc2 ?_)))))
 by_cases hs : (ziy op).style = 0
 ·refine zat (yEq (by omega)) ?_
  simp [wpT, hs]
 refine zbv (nEq (by omega)) ?_
 refine za8 hc (zc2 (za8 zf2 (za8 (z6p (by decide)) (za9 (zze4 hF h27) (zc2 ?_)))))
 by_cases hl : (ziy op).least <= n
 case neg =>
  refine zat (yLt (by omega)) ?_
  simp [wpT, hl]
 refine zbv (nLt (by omega)) ?_
 refine za8 hc (zc2 (za8 zf2 (za8 (z6p (by decide)) (za9 (zzjm hF h27) (zc2 ?_)))))
 by_cases hm : n <= (ziy op).most
 case neg =>
  refine zat (yLt (by omega)) ?_
  simp [wpT, hm]
 refine zbv (nLt (by omega)) ?_
 have hld := zze3 hF h27
 refine za8 zf2 (za8 (z6p (by decide)) (za9 hld (zbe ?_)))
 simp only [decide_eq_true hd, decide_eq_true h27, decide_eq_false hs, decide_eq_true hl, decide_eq_true hm, ybo, ybm]
 cases hnm : (ziy op).named with
 | true =>
  rw [hnm] at hld; simp only [if_true]; refine zat rfl (za6 ?_)
  rw [q38, zn7, zaa]; refine zbe ?_
  cases hN : zi8 name with
  | false =>
   refine zat rfl ?_
   simp [wpT]
  | true =>
   refine zbv (by simp) (za8 zf2 (za8 (z6p (by decide)) (za9 hld (zbe (zbv (by simp) ?_)))))
   simp only [ybo]; exact htail
 | false =>
  rw [hnm] at hld; simp only [yar, if_false]; refine zbv (by simp) (za8 zf2 (za8 (z6p (by decide)) (za9 hld (zbe (zat rfl ?_)))))
  cases hN : zes name [] with
  | false =>
   refine zat rfl ?_
   simp [wpT]
  | true =>
   refine zbv (by simp) ?_
   simp only [ybo]; exact htail
end
mutual
theorem z1t {bf : Nat} (hF : Cel t bf none zpp) : ∀ (x : zcl) (d : Nat) (cs : List zab), x.fit -> d < 1000 -> RD t x.d cs -> pvC C13 F 18 [.agg [.ptr bf 0], .agg cs, .int .i64 (d : Int)] t = some (.bool (zwp x d))
 | .mk op name v args, d, cs, hx, hd, h => by
  obtain ⟨a, b, c, rfl, ha, hb, hc⟩ := zq8 h
  simp only [zcl.op, zcl.name, zcl.v, zcl.args] at ha hb hc ⊢
  have hx' := hx
  unfold zcl.fit at hx'; unfold zwp; refine zzfk hF hx'.1 (n := args.length) hx'.2.2.2.2.1 hx'.2.1 ha hb hx'.2.2.2.1.2.1 (by rw [hc.len, yag]) fun hd' => ?_
  have := z4u hF args args d c 0 hc rfl hx'.2.2.2.2.2 hx'.2.2.2.2.1 hd'
  exact this
theorem z4u {bf : Nat} (hF : Cel t bf none zpp) : ∀ (l args : List zcl) (d : Nat) (c : zab) (i : Nat), RSl t 9 (args.map zcl.d) c -> args.drop i = l -> zcl.fits l -> args.length < zlk -> d <= 24 →
  jp 18 4 [.int .i64 (d : Int), c, .int .i64 (args.length : Int), .int .i64 (i : Int), .ptr bf 0] t (fun x t' => x = .bool (zzcy l (d + 1)) /\ t' = t)
 | [], args, d, c, i, hc, hl, hok, hsz, hd => by
  have := zzcb hl
  refine j18_4 _ _ _ _ _ ?_
  unfold zzix; refine zbv (nLt (by omega)) ?_
  unfold zzcy; simp [wpT]
 | x :: l, args, d, c, i, hc, hl, hok, hsz, hd => by
  obtain ⟨h1, h2, h3⟩ := z6v hl
  unfold zlk at hsz; have hok' := hok
  unfold zcl.fits at hok'; refine j18_4 _ _ _ _ _ ?_
  obtain ⟨pb, po, cs, g1, g2, g3, g4, g5⟩ := zpi.at sl29 (by simp) hc (i := i) (d := x.d) (by simp [h1])
  unfold zzix; refine zat (yLt (by omega)) (za8 g1 (za9 g2 ?_))
  rw [zqn]; refine zlb (zst g5 x.zs) ?_
  have hmk := g5.mk x.zs
  have hcs : [zab.int .u8 ((cellsOf cs).i 0), .str ((cellsOf cs).s 1), .int .u8 ((cellsOf cs).i 2), .bool ((cellsOf cs).b 3), (cellsOf cs).v 4, .bool ((cellsOf cs).b 5), (cellsOf cs).v 6, .int .i64 ((cellsOf cs).i 7), (cellsOf cs).v 8] = cs := hmk
  rw [hcs]; refine zat g5.all (za6 ?_)
  rw [wrap_i64 (by omega) (by omega), show (d : Int) + 1 = ((d + 1 : Nat) : Int) by omega, q18, z1t hF x (d + 1) cs hok'.1 (by omega) g5, zaa]
  refine zbe ?_
  unfold zzcy
  cases hE : zwp x (d + 1) with
  | false =>
   refine zat rfl ?_
   simp [wpT]
  | true =>
   refine zbv (by simp) (zcw ?_)
   rw [wrap_i64 (by omega) (by omega), show (i : Int) + 1 = ((i + 1 : Nat) : Int) by omega]
   have := z4u hF l args d c (i + 1) hc h2 hok'.2 hsz hd
   simp only [ybo]; exact this
end
end Go.Proofs
