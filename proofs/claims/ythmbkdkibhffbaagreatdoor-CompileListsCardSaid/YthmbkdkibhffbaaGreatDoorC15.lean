/- Long division: before and after. -/
import Derived.Test.YthmbkdkibhffbaaGreatDoorC14
set_option linter.all false
noncomputable section
namespace Go.Am
theorem z9r {a b q R p : Nat} (hp : 0 < p) (h : a * p = b * p * q + R) (hR : R < b * p) : a = b * q + R / p /\ R / p < b := by
 have h1 : p ∣ R := (Nat.dvd_add_right (⟨b * q, by rw [yai b p, yak]⟩ : p ∣ b * p * q)).1 (h ▸ ⟨a, yai a p⟩)
 obtain ⟨R', rfl⟩ := h1
 rw [Nat.mul_div_cancel_left _ hp]; refine ⟨Nat.eq_of_mul_eq_mul_left hp ?_, Nat.lt_of_mul_lt_mul_left (a := p) ?_⟩
 ·rw [yai p a, h, yan, yai b p, yak]
 ·rw [yai p b]; exact hR
theorem div_v {B p K n top : Nat} {b rb : List Nat} (hB : B = p * K) (hp : 0 < p) (hlt : za5 B b) (hl : b.length = n + 1) (htop : b[n]? = some top) (ht : top * p < B) (hbig : B <= 2 * (top * p)) (hrl : za5 B rb) (hrb : rb.length = n + 2) (hv : val B rb = val B b * p) :
  val B (rb.take (n + 1)) = val B b * p /\ ∀ x, (rb.take (n + 1))[n]? = some x -> B <= 2 * x := by
 have hB0 : 0 < B := by omega
 have hbv : val B b = val B (b.take n) + B ^ n * top := by
  have := zds B b n
  rw [this, zco htop, yau (by omega)]
  have : (b.take n).length = n := by simp; omega
  rw [this]; simp [val]
 have hlow : val B (b.take n) < B ^ n := by
  have := zhw hB0 (zel hlt n)
  have h : (b.take n).length = n := by simp; omega
  rw [h] at this; exact this
 have hK : top < K := by
  rw [hB, yai p K] at ht; exact Nat.lt_of_mul_lt_mul_right ht
 have hup : val B b * p < B ^ (n + 1) := by
  have h1 : val B b < B ^ n * (top + 1) := by rw [hbv, yan]; omega
  have h2 : B ^ n * (top + 1) <= B ^ n * K := yaw _ hK
  have h3 : val B b * p < B ^ n * K * p := Nat.mul_lt_mul_of_pos_right (by omega) hp
  have h4 : B ^ n * K * p = B ^ (n + 1) := by rw [Nat.pow_succ, yak, yai K p, <- hB]
  omega
 have hsplit := zds B rb (n + 1)
 have htl : (rb.take (n + 1)).length = n + 1 := by simp; omega
 rw [htl] at hsplit; have hz : val B (rb.drop (n + 1)) = 0 := by
  rcases Nat.eq_zero_or_pos (val B (rb.drop (n + 1))) with h | h
  ·exact h
  ·exfalso
   have := yaw (B ^ (n + 1)) h
   rw [Nat.mul_one] at this; omega
 have hval : val B (rb.take (n + 1)) = val B b * p := by rw [hz] at hsplit; omega
 refine ⟨hval, fun x hx => ?_⟩
 have h1 : val B (rb.take (n + 1)) = val B ((rb.take (n + 1)).take n) + B ^ n * x := by
  have := zds B (rb.take (n + 1)) n
  rw [this, zco hx, yau (by omega)]
  have h : ((rb.take (n + 1)).take n).length = n := by simp; omega
  rw [h]; simp [val]
 have h2 : val B ((rb.take (n + 1)).take n) < B ^ n := by
  have := zhw hB0 (zel (zel hrl (n + 1)) n)
  have h : ((rb.take (n + 1)).take n).length = n := by simp; omega
  rw [h] at this; exact this
 have h3 : B ^ n * (top * p) <= val B b * p := by
  rw [hbv, yap, yak]; omega
 have h4 : B ^ n * (top * p) < B ^ n * (x + 1) := by rw [yan]; omega
 have h5 : top * p < x + 1 := Nat.lt_of_mul_lt_mul_left h4
 omega
theorem div_u {B p n j : Nat} {a b ru : List Nat} (hB0 : 0 < B) (hal : za5 B a) (hb : B ^ n <= val B b) (hj : a.length = j + (n + 1)) (hru : ru.length = a.length + 1) (hp : 0 < p) (hv : val B ru = val B a * p) : val B (ru.drop j) < B * (val B b * p) := by
 have h1 := zds B ru j
 have htl : (ru.take j).length = j := by simp; omega
 rw [htl] at h1; have h2 : val B a < B ^ (j + (n + 1)) := by rw [<- hj]; exact zhw hB0 hal
 have h3 : val B a * p < B ^ (j + (n + 1)) * p := Nat.mul_lt_mul_of_pos_right h2 hp
 have h4 : B ^ (j + (n + 1)) * p = B ^ j * (B * (B ^ n * p)) := by
  rw [Nat.pow_add, Nat.pow_succ, yai (B ^ n) B, yak, yak]
 have h5 : B ^ j * val B (ru.drop j) < B ^ j * (B * (B ^ n * p)) := by omega
 have h6 := Nat.lt_of_mul_lt_mul_left h5
 have h7 : B * (B ^ n * p) <= B * (val B b * p) := yaw _ (yaj _ hb)
 omega
end Go.Am
set_option maxRecDepth 100000
namespace Go.Proofs
open Go Go.Am
variable [zcf]
variable {t : Tr zal}
theorem zsb {l : List Nat} {b L hi : Nat} (ho : Own t b .u32 l) (h2 : hi <= L) (h3 : 0 < L) :
  zen C19 305 ⟨0, t⟩ (.slice b 0 L L) none (some (.int .i64 (hi : Int))) = some (.slice b 0 hi L) := by
 obtain ⟨c, hg, _⟩ := ho
 obtain ⟨⟨y, hy1, hy2⟩, ⟨z, hz1, hz2, hz3⟩⟩ := zea
 unfold zen; rw [hy1, zac]; have hb : ∀ y (k : Nat), zq5 y (.int .i64 (k : Int)) = zao (Nat.ble k y) (some k) := fun y k => rfl
 unfold zhy; simp only [zab.asStr, zab.asSlice]; rw [hy2, zac]; unfold zd6; rw [hz1, zac]; unfold zhp zxc; simp only [hb]; rw [show Nat.ble hi L = true from zj2.2 h2]; simp only [zaz, zac]
 have hf : zcw ⟨0, t⟩ b z.size L 0 false = true := by
  unfold zcw za1; rw [hg, zac]; rfl
 rw [show Nat.ble hi L = true from zj2.2 h2, hf]; simp only [Bool.and_self, zaz]; have hq : Nat.beq L 0 = false := by
  cases hq : Nat.beq L 0 with
  | true => have := zc0.1 hq; omega
  | false => rfl
 rw [hq, cond_false, Nat.zero_mul]; rfl
theorem z22 {b o n c : Nat} : same 10 (.slice b o n c) (.slice b o n c) = true := by
 simp [same]
theorem zzp {q W Z : List Nat} {b bq n s L Lq : Nat} {Q : zaw} (ho : Own t b .u32 (W ++ [0] ++ Z)) (hoq : Own t bq .u32 q) (hW : W.length = n) (hn : n < 1000000) (hL : n + 1 + Z.length = L) (hq : q.length = Lq) (hLq : Lq < 1000000)
  (hQ : ∀ qv rv, RSl t 1 (zbg .u32 (zc9 q)) qv -> RSl t 1 (zbg .u32 (zc9 W)) rv -> Q (.tup [qv, rv]) t) :
  jp 316 6 [.int .i64 (n : Int), .int .i64 (s : Int), .slice b 0 L L, .slice bq 0 Lq Lq, .int .i64 (n : Int), .int .i64 (n : Int)] t Q := by
 have e1 := zsb (L := L) (hi := n) ho (by omega) (by omega)
 have e2 : RSl t 1 (zbg .u32 W) (.slice b 0 n L) := by
  have := ho.slice (off := 0) (n := n) (cap := L) (by simp; omega) (by omega)
  rw [List.drop_zero, yba, List.take_left' hW] at this; exact this
 have e3 : RSl t 1 (zbg .u32 q) (.slice bq 0 Lq Lq) := by
  have := hoq.all (cap := Lq) (by omega)
  rw [hq] at this; exact this
 obtain ⟨qv, f1, f2⟩ := zls (by omega) e3
 obtain ⟨rv, f3, f4⟩ := zls (by omega) e2
 refine zzfb _ _ _ _ _ _ ?_
 simp only [z5z, wpT, zat]; rw [if_neg (by omega)]
 simp only [e1, zaa, q313, f1, f3]; rw [z22]; exact hQ qv rv f2 f4
theorem zwz {a b : List Nat} {u v : zab} {Q : zaw} (hu : RSl t 1 (zbg .u32 a) u) (hv : RSl t 1 (zbg .u32 b) v) (ha : a.length < 700000) (hal : za5 BB a) (hbl : za5 BB b) (han : norm a) (hbn : norm b) (hb0 : b ≠ [])
  (hQ : ∀ t' q r qv rv, TLe t t' -> RSl t' 1 (zbg .u32 q) qv -> RSl t' 1 (zbg .u32 r) rv -> za5 BB q -> za5 BB r -> norm q -> norm r -> val BB a = val BB b * val BB q + val BB r -> val BB r < val BB b -> Q (.tup [qv, rv]) t') :
  Wc C19 F 316 [u, v] t Q := by
 have hBB := zkp
 have hB1 : 1 < BB := by omega
 have hlt := z92 hB1 hal hbl han hbn
 refine w316 _ _ ?_
 simp only [t316, wpT, q314, zzfw (by omega) hu hv, zaa, zag, zat]
 by_cases hc : zur a b < 0
 ·rw [if_pos hc]
  simp only [q339]; refine zzdr hu (by omega) fun t' v' h1 h2 => ?_
  exact hQ t' [] a _ _ h1 ⟨[], .inl ⟨rfl, rfl⟩, by simp [zbg, RDs]⟩ h2 (fun x hx => by cases hx) hal (fun h => absurd rfl h) han (by simp [val]) (hlt.1 hc)
 ·rw [if_neg hc]
  have hge : val BB b <= val BB a := Nat.le_of_not_lt fun h => hc (hlt.2 h)
  have hlen : b.length <= a.length := zfd hB1 hal hbn hge
  simp only [hv.len, zaa, zag, zbj, zc3]; by_cases h1 : b.length = 1
  ·rw [if_pos (by omega)]
   obtain ⟨d, rfl⟩ : ∃ d, b = [d] := by
    match b, h1 with
    | [d], _ => exact ⟨d, rfl⟩
   have hd : d < 4294967296 := by have := hbl d (by simp); omega
   have hd0 : 0 < d := by have := hbn (by simp); simp at this; omega
   obtain ⟨c, off, g1, g2⟩ := hv.idx zea (i := 0) (x := d) rfl
   have g1' : zaf C19 305 v (.int .i64 0) = some (.ptr c off) := g1
   simp only [g1', g2, zaa, zag, q321]; refine z9q hu (by omega) (by rw [<- hBB]; exact hal) hd hd0 fun t' v' q r k1 k2 k3 k4 k5 k6 => ?_
   simp only [zas, zab.asTup, zac, zbh, yaa, yab, zaa, zag]; intro b' hb' _; obtain ⟨H', m1, m2, m3⟩ := zzhe (k := .u32) zpo rfl zep rfl rfl r trivial hb'
   have hR := m2.all (cap := 1) (by simp)
   obtain ⟨rv, f1, f2⟩ := zls (by simp) hR
   have f1' : pvC C19 F 313 [.slice b' 0 1 1] H'.t = some rv := f1
   rw [m1]; simp only [zaa, q313, f1']; rw [<- hBB] at k3 k6; have hrl : za5 BB [r] := fun x hx => by rw [List.mem_singleton.1 hx]; omega
   refine hQ H'.t (zc9 q) (zc9 [r]) v' rv (k1.trans m3) (k2.mono m3) f2 (zdw k3) (zdw hrl) (zej _) (zej _) ?_ ?_
   ·rw [zes, zes]; simp only [val]; rw [k6, yai]; simp
   ·rw [zes]; simp only [val]; omega
  ·rw [if_neg (by omega)]
   have hbpos : 0 < b.length := List.length_pos_iff.2 hb0
   obtain ⟨m, hm⟩ : ∃ m, b.length = m + 2 := ⟨b.length - 2, by omega⟩
   obtain ⟨j, hj⟩ : ∃ j, a.length = j + (m + 2) := ⟨a.length - (m + 2), by omega⟩
   obtain ⟨top, htop⟩ := getElem?_of_lt (l := b) (i := m + 1) (by omega)
   have htlt : top < 4294967296 := by have := zbt hbl htop; omega
   have ht0 : 0 < top := by
    have := hbn hb0
    have hlast : b.getLast hb0 = top := by
     rw [List.getLast_eq_getElem]; have : b[b.length - 1]? = some top := by rw [hm]; exact htop
     exact (yad.1 this).2
    omega
   obtain ⟨s, hs, hs1, hs2, hs3⟩ := z7v (t := t) htlt ht0
   obtain ⟨c, off, g1, g2⟩ := hv.idx zea htop
   have eb : ((m + 2 : Nat) : Int) - 1 = ((m + 1 : Nat) : Int) := by omega
   simp (disch := omega) only [hm, eb, zak, g1, g2, zaa, zag, q337, hs3, q340]
   refine zsd hv (by omega) (by rw [<- hBB]; exact hbl) hs fun t1 b1 rb k1 k2 k3 k4 k5 k6 k7 => ?_
   rw [<- hBB] at k6 k7; rw [hm] at k5 ⊢
   have hK : BB = 2 ^ s * 2 ^ (32 - s) := by rw [<- Nat.pow_add, show s + (32 - s) = 32 by omega, hBB]
   have hp : 0 < 2 ^ s := Nat.pow_pos (by decide)
   obtain ⟨w1, w2⟩ := div_v (n := m + 1) hK hp hbl hm htop (by omega) (by omega) k6 k5 k7
   have e1 := zsb (L := m + 2 + 1) (hi := m + 2) k4 (by omega) (by omega)
   have hv1 : RSl t1 1 (zbg .u32 (rb.take (m + 2))) (.slice b1 0 (m + 2) (m + 2 + 1)) := by
    have := k4.slice (off := 0) (n := m + 2) (cap := m + 2 + 1) (by omega) (by omega)
    rw [List.drop_zero] at this; exact this
   simp only [e1, zaa]; refine zsd (hu.mono k1) (by omega) (by rw [<- hBB]; exact hal) hs fun t2 b2 ra n1 n2 n3 n4 n5 n6 n7 => ?_
   rw [<- hBB] at n6 n7; rw [hj] at n5 ⊢
   have ea : ((j + (m + 2) : Nat) : Int) - ((m + 2 : Nat) : Int) = (j : Int) := by omega
   have ea2 : (j : Int) + 1 = ((j + 1 : Nat) : Int) := by omega
   simp (disch := omega) only [hu.len, zbj, hj, zaa, zag, ea, ea2, zak]
   intro bq hbq hbaseq; obtain ⟨t3, p1, p2, p3, p4⟩ := zkx (C := C19) (k := .u32) zpo rfl zep rfl rfl (by decide) (n := j + 1) (by omega) hbq
   rw [p1]; have el : zba (.slice bq 0 (j + 1) (j + 1)) = some (.int .i64 ((j + 1 : Nat) : Int)) := rfl
   have el2 : ((j + 1 : Nat) : Int) - 1 = (j : Int) := by omega
   simp (disch := omega) only [zaa, el, zag, el2, zak]
   have hne : b2 ≠ bq := by
    intro e; obtain ⟨c, hc1, _⟩ := n4
    rw [e, hbq] at hc1
    cases hc1
   have hbq1 : t1.get bq = none := by
    cases hg : t1.get bq with
    | none => rfl
    | some x => rw [n1 _ _ hg] at hbq; cases hbq
   have hVpos : 0 < val BB (rb.take (m + 2)) := by
    rw [w1]; refine Nat.mul_pos ?_ hp
    have := z40 (B := BB) hbn hb0
    have h2 : 0 < BB ^ (b.length - 1) := Nat.pow_pos zcz
    omega
   have hbge : BB ^ (m + 1) <= val BB b := by
    have := z40 (B := BB) hbn hb0
    rw [hm] at this; exact this
   have hcl := div_u (n := m + 1) (j := j) (p := 2 ^ s) zcz hal hbge (by omega) (by omega) hp n7
   have hta : ra.take j ++ ra.drop j = ra := List.take_append_drop _ _
   refine zzq (U := val BB ra) hv1 (by simp; omega) (by omega) (zel k6 _) n3 hbaseq n2 hbq1 hne (by omega) (fun x hx => by have := w2 x hx; omega) hVpos (fun t4 q r Z z1 z2 z3 z4 z5 z6 z7 z8 z9 z10 => ?_) j (ra.take j) (ra.drop j) [] [] t3 (by simp; omega) (by simp; omega) (zel n6 _) (z4g n6 _) (fun x hx => by cases hx) (by simp; omega) (by simp) ?_ (n1.trans p3) ?_ (by simpa using p2) ?_
   ·have hcl2 : za5 BB (r ++ [0]) := ze4 z5 zcz
    refine zvb (t := t4) (Z := Z) (c := r ++ [0]) (cn := 0) (by omega) (by simp [z4]) hcl2 (by rw [<- z4]; simp) n3 hs (by omega) (fun t5 W y1 y2 y3 y4 y5 => ?_) (m + 2) 0 t4 [] (by omega) (Off.refl _ _) (by simpa using z2) rfl (fun x hx => by cases hx) (by rw [List.drop_zero, Nat.pow_zero, Nat.one_mul]; exact yax _)
    have y6 : val BB W = val BB r / 2 ^ s := by
     rw [zdt, Nat.mul_zero, Nat.add_zero, Nat.zero_div, Nat.mul_zero, Nat.add_zero] at y5; exact y5
    rw [w1] at z9 z10; rw [n7] at z10; obtain ⟨x1, x2⟩ := z9r hp z10 z9
    refine zzp y2 (z3.off (fun e => hne e.symm) y1) y3 (by omega) (by omega) z7 (by omega) fun qv rv x3 x4 => ?_
    have ht5 : TLe t t5 := k1.trans (z1.off n2 y1)
    exact hQ t5 (zc9 q) (zc9 W) qv rv ht5 x3 x4 (zdw z6) (zdw y4) (zej _) (zej _) (by rw [zes, zes, y6]; exact x1) (by rw [zes, y6]; exact x2)
   ·rw [w1]; exact hcl
   ·rw [hta, ybe]; exact n4.tle p3
   ·have hv0 : val BB ([] : List Nat) = 0 := rfl
    rw [hta, hv0, Nat.mul_zero, Nat.mul_zero, yax]
end Go.Proofs
namespace Go.Am
def wd (l : List Nat) (i : Nat) : Nat := (l[i]?).getD 0
theorem zxv {B : Nat} (hB : 0 < B) {l : List Nat} (h : za5 B l) (i : Nat) : wd l i < B := by
 unfold wd
 cases hx : l[i]? with
 | none => exact hB
 | some x => exact zbt h hx
theorem zg3 (B : Nat) (l : List Nat) (i : Nat) : val B (l.take (i + 1)) = val B (l.take i) + B ^ i * wd l i := by
 unfold wd
 cases hx : l[i]? with
 | none =>
  have := List.getElem?_eq_none_iff.1 hx
  rw [ybb (by omega), ybb (by omega)]
  simp
 | some x =>
  have hi := (yad.1 hx).1
  rw [ze9 hx, zdt]; have : (l.take i).length = i := by simp; omega
  rw [this]; rfl
theorem z9s {B P u v Va Vb w x y bo ai bi x' y' lx ly bo' W : Nat} (h : W + P * x + v * Vb = u * Va + P * (y + bo)) (hx : B * x' + lx = x + u * ai) (hy : B * y' + ly = y + v * bi) (hw : lx + B * bo' = w + ly + bo) :
  (W + P * w) + P * B * x' + v * (Vb + P * bi) = u * (Va + P * ai) + P * B * (y' + bo') := by
 have e : P * (x + u * ai + B * y' + B * bo') = P * (w + B * x' + y + v * bi + bo) := congrArg (P * ·) (by omega)
 have e1 : v * (P * bi) = P * (v * bi) := Nat.mul_left_comm _ _ _
 have e2 : u * (P * ai) = P * (u * ai) := Nat.mul_left_comm _ _ _
 simp only [yan, yak] at e h ⊢
 rw [e1, e2]; omega
theorem zzdk {P W x z X Y : Nat} (h : W + P * x + Y = X + P * z) (hW : W < P) (hX : X < P) (hle : Y <= X) : W = X - Y := by
 rcases Nat.lt_trichotomy x z with g | g | g
 ·have := yaw P g
  rw [Nat.mul_succ] at this; omega
 ·rw [g] at h; omega
 ·have := yaw P g
  rw [Nat.mul_succ] at this; omega
theorem z2d {B u x a : Nat} (hx : x <= u) (ha : a < B) : (x + u * a) / B <= u := by
 have h : x + u * a <= u * B := by
  have := yaw u (Nat.succ_le_of_lt ha)
  rw [Nat.mul_succ] at this; omega
 exact Nat.div_le_of_le_mul (by rw [yai B]; exact h)
end Go.Am
namespace Go.Proofs
open Go Go.Am
variable [zcf]
variable {t : Tr zal}
theorem z05 {x u a : Nat} (hx : x <= u) (hu : u < 4294967296) (ha : a < 4294967296) : zah .u64 ((x : Int) + zah .u64 ((u : Int) * zah .u64 (a : Int))) = ((x + u * a : Nat) : Int) := by
 have h : u * a <= 4294967295 * 4294967295 := Nat.mul_le_mul (by omega) (by omega)
 rw [za9 (n := (a : Int)) (by omega) (by omega), <- Int.natCast_mul]
 generalize u * a = z at h ⊢
 rw [za9 (n := (z : Int)) (by omega) (by omega), za9 (by omega) (by omega)]
 omega
theorem z34 {la lb : List Nat} {pa pb w : zab} {u v x y bo n i : Nat} {Q : zaw} (ha : RSl t 1 (zbg .u32 la) pa) (hb : RSl t 1 (zbg .u32 lb) pb) (hal : za5 BB la) (hbl : za5 BB lb) (hu : u < 4294967296) (hv : v < 4294967296) (hx : x <= u) (hy : y <= v) (hi : i < n)
  (h : jp 317 21 [.int .u64 (u : Int), pa, .int .u64 (v : Int), pb, w, .int .u64 ((x + u * wd la i : Nat) : Int), .int .u64 ((y + v * wd lb i : Nat) : Int), .int .u32 (bo : Int), .int .i64 (i : Int), .int .i64 (n : Int), .int .i64 (i : Int)] t Q) :
  jp 317 2 [.int .u64 (u : Int), pa, .int .u64 (v : Int), pb, w, .int .u64 (x : Int), .int .u64 (y : Int), .int .u32 (bo : Int), .int .i64 (n : Int), .int .i64 (i : Int)] t Q := by
 have hBB := zkp
 have second : jp 317 17 [.int .u64 (u : Int), pa, .int .u64 (v : Int), pb, w, .int .u64 ((x + u * wd la i : Nat) : Int), .int .u64 (y : Int), .int .u32 (bo : Int), .int .i64 (i : Int), .int .i64 (n : Int), .int .i64 (i : Int)] t Q := by
  refine zzho _ _ _ _ _ _ _ _ _ _ _ ?_
  simp only [z5y, wpT, hb.len, zaa, zag, zbj, zat]; by_cases hlen : i < lb.length
  ·obtain ⟨z, hz⟩ := getElem?_of_lt hlen
   have hz32 : z < 4294967296 := by have := zbt hbl hz; omega
   obtain ⟨c, off, g1, g2⟩ := hb.idx zea hz
   rw [if_pos (by omega)]
   simp only [g1, g2, zaa, zag]; rw [z05 hy hv hz32]; have : wd lb i = z := by unfold wd; rw [hz]; rfl
   rw [this] at h; exact h
  ·rw [if_neg (by omega)]
   have : wd lb i = 0 := by unfold wd; rw [List.getElem?_eq_none (by omega)]; rfl
   rw [this, Nat.mul_zero, Nat.add_zero] at h; exact h
 refine zzfa _ _ _ _ _ _ _ _ _ _ ?_
 simp only [z5x, wpT, zat]; rw [if_pos (by omega)]
 simp only [ha.len, zaa, zag, zbj]; by_cases hlen : i < la.length
 ·obtain ⟨z, hz⟩ := getElem?_of_lt hlen
  have hz32 : z < 4294967296 := by have := zbt hal hz; omega
  obtain ⟨c, off, g1, g2⟩ := ha.idx zea hz
  rw [if_pos (by omega)]
  simp only [g1, g2, zaa, zag]; rw [z05 hx hu hz32]; have : wd la i = z := by unfold wd; rw [hz]; rfl
  rw [this] at second; exact second
 ·rw [if_neg (by omega)]
  have : wd la i = 0 := by unfold wd; rw [List.getElem?_eq_none (by omega)]; rfl
  rw [this, Nat.mul_zero, Nat.add_zero] at second; exact second
end Go.Proofs
namespace Go.Proofs
open Go Go.Am
variable [zcf]
variable {t : Tr zal}
theorem z9t {la lb : List Nat} {pa pb : zab} {b u v n : Nat} {t0 : Tr zal} {Q : zaw} (ha : RSl t0 1 (zbg .u32 la) pa) (hb : RSl t0 1 (zbg .u32 lb) pb) (hal : za5 BB la) (hbl : za5 BB lb) (hu : u < 4294967296) (hv : v < 4294967296) (hn : n < 1000000) (hbase : C19.base <= b) (hb0 : t0.get b = none)
  (hQ : ∀ t' W rv x z, TLe t0 t' -> RSl t' 1 (zbg .u32 (zc9 W)) rv -> W.length = n -> za5 BB W -> val BB W + BB ^ n * x + v * val BB (lb.take n) = u * val BB (la.take n) + BB ^ n * z -> Q rv t') :
  ∀ (k i x y bo : Nat) (t' : Tr zal) (W : List Nat), i + k = n -> TLe t0 t' -> Own t' b .u32 (W ++ List.replicate k 0) -> W.length = i -> za5 BB W -> x <= u -> y <= v -> bo < 2 -> val BB W + BB ^ i * x + v * val BB (lb.take i) = u * val BB (la.take i) + BB ^ i * (y + bo) →
  jp 317 2 [.int .u64 (u : Int), pa, .int .u64 (v : Int), pb, .slice b 0 n n, .int .u64 (x : Int), .int .u64 (y : Int), .int .u32 (bo : Int), .int .i64 (n : Int), .int .i64 (i : Int)] t' Q := by
 intro k; have hBB := zkp
 induction k with
 | zero =>
  intro i x y bo t' W hi ht ho hW hWl hx hy hbo hval; have hi' : i = n := by omega
  subst hi'
  have e3 : RSl t' 1 (zbg .u32 W) (.slice b 0 i i) := by
   rw [List.replicate_zero, ybe] at ho; have := ho.all (cap := i) (by omega)
   rw [hW] at this; exact this
  obtain ⟨rv, f1, f2⟩ := zls (by omega) e3
  refine zzfa _ _ _ _ _ _ _ _ _ _ ?_
  simp only [z5x, wpT, zat]; rw [if_neg (by omega)]
  simp only [q313, f1, zaa]; exact hQ t' W rv x (y + bo) ht f2 hW hWl hval
 | succ k ih =>
  intro i x y bo t' W hi ht ho hW hWl hx hy hbo hval; refine z34 (ha.mono ht) (hb.mono ht) hal hbl hu hv hx hy (by omega) ?_
  have wa := zxv zcz hal i
  have wb := zxv zcz hbl i
  have cx := z2d hx wa
  have cy := z2d hy wb
  have va := zg3 BB la i
  have vb := zg3 BB lb i
  generalize wd la i = ai at *
  generalize wd lb i = bi at *
  generalize hX : x + u * ai = X at *
  generalize hY : y + v * bi = Y at *
  have ex : zah .u32 (X : Int) = ((X % 4294967296 : Nat) : Int) := by rw [zdf]; omega
  have ey : zah .u32 (Y : Int) = ((Y % 4294967296 : Nat) : Int) := by rw [zdf]; omega
  have fx : Int.fdiv (X : Int) 4294967296 = ((X / 4294967296 : Nat) : Int) := zey X 4294967296
  have fy : Int.fdiv (Y : Int) 4294967296 = ((Y / 4294967296 : Nat) : Int) := zey Y 4294967296
  have hs := zzbc (t := t') (x := X % 4294967296) (y := Y % 4294967296) (b := bo) (Nat.mod_lt _ (by decide)) (Nat.mod_lt _ (by decide)) hbo
  obtain ⟨w, hw⟩ : ∃ w, w = (X % 4294967296 + 8589934592 - Y % 4294967296 - bo) % 4294967296 := ⟨_, rfl⟩
  obtain ⟨bo', hbo'⟩ : ∃ bo' : Nat, bo' = if X % 4294967296 < Y % 4294967296 + bo then 1 else 0 := ⟨_, rfl⟩
  rw [<- hw, <- hbo'] at hs; have hwlt : w < BB := by omega
  have hb2 : bo' < 2 := by rw [hbo']; split <;> omega
  have hsum : X % 4294967296 + 4294967296 * bo' = w + Y % 4294967296 + bo := by
   rw [hw, hbo']; split <;> omega
  have g1 := zly zea (b := b) (n := n) (cap := n) (j := i) (by omega)
  obtain ⟨t1, s1, s2, s3⟩ := ho.store (C := C19) hbase (j := i) (by simp; omega) w zep rfl
  have hset := zgq (p := W) (n := k) (x := w)
  rw [hW] at hset; rw [hset] at s2; have ei : (i : Int) + 1 = ((i + 1 : Nat) : Int) := by omega
  refine zzhn _ _ _ _ _ _ _ _ _ _ _ ?_
  simp only [z5w, wpT, ex, ey, q342, hs, zaa, zas, zab.asTup, zac, zbh, yaa, yab, zag, g1, fx, fy, ei]; intro _ _ _; rw [s1, zaa, zak (by omega) (by omega)]
  rw [hBB] at cx cy; refine ih (i + 1) (X / 4294967296) (Y / 4294967296) bo' t1 (W ++ [w]) (by omega) (ht.off hb0 s3) s2 (by simp [hW]) (ze4 hWl hwlt) cx cy hb2 ?_
  have hst := z9s (B := BB) (P := BB ^ i) (ai := ai) (bi := bi) (x' := X / 4294967296) (y' := Y / 4294967296) (lx := X % 4294967296) (ly := Y % 4294967296) (w := w) (bo' := bo') hval (by rw [hX, hBB]; exact ybi _ _) (by rw [hY, hBB]; exact ybi _ _) (by rw [hBB]; exact hsum)
  rw [va, vb, zdt, hW, Nat.pow_succ]; exact hst
theorem zgv {la lb : List Nat} {pa pb : zab} {u v : Nat} {Q : zaw} (ha : RSl t 1 (zbg .u32 la) pa) (hb : RSl t 1 (zbg .u32 lb) pb) (hal : za5 BB la) (hbl : za5 BB lb) (hu : u < 4294967296) (hv : v < 4294967296) (hla : la.length < 700000) (hlb : lb.length < 700000) (hge : v * val BB lb <= u * val BB la)
  (hQ : ∀ t' r rv, TLe t t' -> RSl t' 1 (zbg .u32 r) rv -> za5 BB r -> norm r -> val BB r = u * val BB la - v * val BB lb -> Q rv t') :
  Wc C19 F 317 [.int .u64 (u : Int), pa, .int .u64 (v : Int), pb] t Q := by
 have hBB := zkp
 refine w317 _ _ _ _ ?_
 simp only [t317, wpT, ha.len, hb.len, zaa, zag, zbj]; obtain ⟨n, hn1, hn2, hn3, hn4⟩ : ∃ n : Nat, (bif iLt (la.length : Int) (lb.length : Int) then (lb.length : Int) else (la.length : Int)) + 1 = (n : Int) /\ la.length < n /\ lb.length < n /\ n < 700002 := by
  cases hc : iLt (la.length : Int) (lb.length : Int) with
  | true => have := zat.1 hc; exact ⟨lb.length + 1, by simp, by omega, by omega, by omega⟩
  | false =>
   have : ¬ ((la.length : Int) < (lb.length : Int)) := fun h => by rw [zat.2 h] at hc; cases hc
   exact ⟨la.length + 1, by simp, by omega, by omega, by omega⟩
 rw [hn1, zak (by omega) (by omega)]
 intro b hb0 hbase; obtain ⟨t', g1, g2, g3, g4⟩ := zkx (C := C19) (k := .u32) zpo rfl zep rfl rfl (by decide) (n := n) (by omega) hb0
 rw [g1]; have el : zba (.slice b 0 n n) = some (.int .i64 (n : Int)) := rfl
 simp only [zaa, el, zag]; refine z9t ha hb hal hbl hu hv (by omega) hbase hb0 (fun t2 W rv x z k1 k2 k3 k4 k5 => ?_) n 0 0 0 0 t' [] (by omega) g3 (by simpa using g2) rfl (fun x hx => by cases hx) (by omega) (by omega) (by omega) (by simp [val])
 rw [ybb (by omega), ybb (by omega)] at k5
 have hP : u * val BB la < BB ^ n := by
  have h1 := zhw zcz hal
  have h2 : BB ^ (la.length + 1) <= BB ^ n := Nat.pow_le_pow_right zcz (by omega)
  have h3 : u * val BB la <= u * BB ^ la.length := yaw _ (Nat.le_of_lt h1)
  have h4 : u * BB ^ la.length < BB * BB ^ la.length := Nat.mul_lt_mul_of_pos_right (by omega) (Nat.pow_pos zcz)
  rw [Nat.pow_succ, yai _ BB] at h2; omega
 have hWl := zhw zcz k4
 rw [k3] at hWl; have := zzdk k5 hWl hP hge
 exact hQ t2 (zc9 W) rv k1 k2 (zdw k4) (zej _) (by rw [zes]; exact this)
end Go.Proofs
namespace Go.Proofs
open Go Go.Am
variable [zcf]
variable {t : Tr zal}
theorem zzim {v : zab} {l : List Nat} {b : Nat} (hv : RSl t 1 (zbg .u32 l) v) (hb : t.get b = none) :
  ∃ H', z44 v ⟨b, t⟩ = some (.ptr b 0, H') /\ TLe t H'.t /\ zap C19 305 ⟨0, H'.t⟩ (.ptr b 0) = some v := by
 have hc : v.cells = [v] := by
  obtain ⟨cl, h1, _⟩ := hv
  rcases h1 with ⟨rfl, _⟩ | ⟨_, _, _, rfl, _⟩ <;> rfl
 refine ⟨za7 ⟨b, t⟩ [v] none, by unfold z44; rw [hc], ?_, ?_⟩
 ·intro c u hg
  show (t.set b _).get c = _
  rw [Tr.get_set, if_neg (by intro e; rw [e, hb] at hg; cases hg)]; exact hg
 ·have hg : (za7 ⟨b, t⟩ [v] none).t.get b = some (.cells (Tr.ofList [v]) 1 none) := by
   show (t.set b _).get b = _
   rw [Tr.get_set, if_pos rfl]; rfl
  unfold zap; simp only [zab.asPtr, zac]; rw [zpo, zac]; unfold za1; rw [hg, zac]; simp only [zal.asCells, zac]; unfold znn; first
   | rfl
   | (rw [cond_false, Tr.get_ofList]; rfl)
theorem zxu {v : zab} {l : List Nat} {b i : Nat} (hv : RSl t 1 (zbg .u32 l) v) (hl : za5 BB l) (hload : zap C19 305 ⟨0, t⟩ (.ptr b 0) = some v) : pvC C19 F 361 [.int .i64 (i : Int), .ptr b 0] t = some (.int .u64 ((wd l i : Nat) : Int)) := by
 have hBB := zkp
 refine zbk.2 (w361 _ _ ?_)
 simp only [t361, wpT, hload, zaa, hv.len, zag, zbj, zda]; by_cases h : i < l.length
 ·obtain ⟨x, hx⟩ := getElem?_of_lt h
  have hx32 : x < 4294967296 := by have := zbt hl hx; omega
  obtain ⟨c, off, g1, g2⟩ := hv.idx zea hx
  rw [if_neg (by omega)]
  simp (disch := omega) only [g1, g2, zaa, zag, za9]
  have : wd l i = x := by unfold wd; rw [hx]; rfl
  rw [this]; simp
 ·rw [if_pos (by omega)]
  have : wd l i = 0 := by unfold wd; rw [List.getElem?_eq_none (by omega)]; rfl
  rw [this]; simp
theorem z83 {v : zab} {l : List Nat} {n s : Nat} (hv : RSl t 1 (zbg .u32 l) v) (hl : za5 BB l) (hn : 3 <= n) (hn2 : n < 1000000) (hs : s < 32) (hb : (wd l (n - 1) * 4294967296 + wd l (n - 2)) * 2 ^ s < 18446744073709551616) :
  pvC C19 F 338 [v, .int .i64 (n : Int), .int .i64 (s : Int)] t = some (.int .u64 (((wd l (n - 1) * 4294967296 + wd l (n - 2)) * 2 ^ s + wd l (n - 3) / 2 ^ (32 - s) : Nat) : Int)) := by
 have hBB := zkp
 refine z3a (w338 _ _ _ ?_)
 simp only [t338, wpT]; intro b hb0 _; obtain ⟨H', g1, g2, g3⟩ := zzim hv hb0
 rw [g1, zaa]; have w1 := zxv zcz hl (n - 1)
 have w2 := zxv zcz hl (n - 2)
 have w3 := zxv zcz hl (n - 3)
 have c1 := zxu (i := n - 1) (hv.mono g2) hl g3
 have c2 := zxu (i := n - 2) (hv.mono g2) hl g3
 have c3 := zxu (i := n - 3) (hv.mono g2) hl g3
 generalize wd l (n - 1) = x1 at *
 generalize wd l (n - 2) = x2 at *
 generalize wd l (n - 3) = x3 at *
 have e1 : (n : Int) - 1 = ((n - 1 : Nat) : Int) := by omega
 have e2 : (n : Int) - 2 = ((n - 2 : Nat) : Int) := by omega
 have e3 : (n : Int) - 3 = ((n - 3 : Nat) : Int) := by omega
 have e4 : (32 : Int) - (s : Int) = ((32 - s : Nat) : Int) := by omega
 have f : ∀ a, zn1 (.func (.func 361) [] [.ptr b 0]) [a] = some (361, [a, .ptr b 0]) := fun _ => rfl
 have e5 : (x1 : Int) * 4294967296 = ((x1 * 4294967296 : Nat) : Int) := by omega
 rw [f, zaa, e1, zak (by omega) (by omega), q361, c1, zaa, zag, zaa, f, zaa, e2, zak (by omega) (by omega), q361, c2, zaa, zag, zaa, e5, za9 (by omega) (by omega), or32 (by omega) (by omega), zaa, zag, zaa, z1v (by omega) hb, zaa, zag, zaa, f, zaa, e3, zak (by omega) (by omega), q361, c3, zaa, zag, zaa, e4, zak (by omega) (by omega), z1u (by omega), zaa, zag, zaa]
 have hz : x3 / 2 ^ (32 - s) < 2 ^ s := Nat.div_lt_of_lt_mul (by rw [<- Nat.pow_add, show 32 - s + s = 32 by omega]; omega)
 have hz2 : (2 : Nat) ^ s <= 2 ^ 31 := Nat.pow_le_pow_right (by decide) (by omega)
 generalize x3 / 2 ^ (32 - s) = z at hz ⊢
 have ho := zpz (a := x1 * 4294967296 + x2) (b := z) (n := s) hz
 generalize (x1 * 4294967296 + x2) * 2 ^ s = h at hb ho ⊢
 have hz3 : z < 18446744073709551616 := by omega
 rw [zd0 (k := .u64) (show h < kHi .u64 from hb) (show z < kHi .u64 from hz3), ho, zaa, zag, zaa]
 exact ⟨rfl, g2⟩
end Go.Proofs
namespace Go.Proofs
open Go Go.Am
variable [zcf]
variable {t : Tr zal}
theorem ztw {A1 B1 : Nat} {P : Nat -> Nat -> Nat -> Nat -> Nat -> Nat -> Nat -> Nat -> Bool -> Prop} {Q : zaw} (hA : A1 < 18446744073709551616) (hB : B1 < 18446744073709551616)
  (hstep : ∀ x y u0 u1 u2 v0 v1 v2 ev, P x y u0 u1 u2 v0 v1 v2 ev -> 0 < y -> v2 <= y -> v1 + v2 <= x - y -> P y (x % y) u1 u2 (u1 + x / y * u2) v1 v2 (v1 + x / y * v2) (!ev))
  (hQ : ∀ x y u0 u1 u2 v0 v1 v2 ev, P x y u0 u1 u2 v0 v1 v2 ev -> Q (.agg [.int .u64 (u0 : Int), .int .u64 (u1 : Int), .int .u64 (v0 : Int), .int .u64 (v1 : Int), .bool ev]) t) :
  ∀ (y x u0 u1 u2 v0 v1 v2 : Nat) (ev : Bool) (c0 c1 c2 c3 : Int) (c4 : Bool), P x y u0 u1 u2 v0 v1 v2 ev -> A1 = v2 * x + v1 * y -> B1 = u2 * x + u1 * y -> y <= x -> 1 <= v2 -> v1 <= v2 →
  jp 315 2 [.int .u64 (x : Int), .int .u64 (y : Int), .int .u64 (u2 : Int), .int .u64 (v2 : Int), .int .u64 c0, .int .u64 c1, .int .u64 c2, .int .u64 c3, .bool c4, .int .u64 (u0 : Int), .int .u64 (u1 : Int), .int .u64 (v0 : Int), .int .u64 (v1 : Int), .bool ev] t Q := by
 intro y; induction y using Nat.strongRecOn with
 | ind y ih =>
  intro x u0 u1 u2 v0 v1 v2 ev c0 c1 c2 c3 c4 hP hx hy hle h1 h12; refine j315_2 _ _ _ _ _ _ _ _ _ _ _ _ _ _ ?_
  simp only [zzeh, wpT, zda]; by_cases g1 : v2 <= y
  ·rw [if_pos (by omega)]
   have hy0 : 0 < y := by omega
   have b1 : v2 * x <= A1 := by omega
   have b2 : x <= A1 := Nat.le_trans (Nat.le_mul_of_pos_left x (by omega)) b1
   have b3 : v2 < 4294967296 := by
    rcases Nat.lt_or_ge v2 4294967296 with h | h
    ·exact h
    ·exfalso
     have : 4294967296 * 4294967296 <= v2 * x := Nat.mul_le_mul h (by omega)
     omega
   have e1 : zah .u64 ((v1 : Int) + (v2 : Int)) = ((v1 + v2 : Nat) : Int) := by rw [za9 (by omega) (by omega)]; omega
   have e2 : zah .u64 ((x : Int) - (y : Int)) = ((x - y : Nat) : Int) := by rw [za9 (by omega) (by omega)]; omega
   rw [e1, e2]; by_cases g2 : v1 + v2 <= x - y
   ·rw [if_pos (by omega)]
    have hdm := ybi x y
    have hmod : x % y < y := Nat.mod_lt _ hy0
    have hq1 : 1 <= x / y := by
     rw [Nat.le_div_iff_mul_le hy0]; omega
    have hxq : x / y <= x := Nat.div_le_self _ _
    have e3 : zzc1 .u64 (x : Int) (y : Int) = some (.int .u64 ((x / y : Nat) : Int)) := zud hy0 (by
     generalize x / y = q at hxq ⊢
     exact za9 (by omega) (by omega))
    have e4 : zzc0 .u64 (x : Int) (y : Int) = some (.int .u64 ((x % y : Nat) : Int)) := zo8 hy0
    have hst := hstep x y u0 u1 u2 v0 v1 v2 ev hP hy0 g1 g2
    generalize x / y = q at *
    generalize x % y = r at *
    have nA : A1 = (v1 + q * v2) * y + v2 * r := by
     rw [hx, <- hdm, yan, yap, yai y q, <- yak v2 q, yai v2 q]; omega
    have nB : B1 = (u1 + q * u2) * y + u2 * r := by
     rw [hy, <- hdm, yan, yap, yai y q, <- yak u2 q, yai u2 q]; omega
    have bv : v1 + q * v2 <= A1 := Nat.le_trans (Nat.le_mul_of_pos_right _ hy0) (by omega)
    have bu : u1 + q * u2 <= B1 := Nat.le_trans (Nat.le_mul_of_pos_right _ hy0) (by omega)
    have bq : v2 <= q * v2 := Nat.le_mul_of_pos_left _ hq1
    have e5 : zah .u64 ((v1 : Int) + zah .u64 ((q : Int) * (v2 : Int))) = ((v1 + q * v2 : Nat) : Int) := by
     rw [<- Int.natCast_mul]; generalize q * v2 = z at bv ⊢
     rw [za9 (n := (z : Int)) (by omega) (by omega), za9 (by omega) (by omega)]; omega
    have e6 : zah .u64 ((u1 : Int) + zah .u64 ((q : Int) * (u2 : Int))) = ((u1 + q * u2 : Nat) : Int) := by
     rw [<- Int.natCast_mul]; generalize q * u2 = z at bu ⊢
     rw [za9 (n := (z : Int)) (by omega) (by omega), za9 (by omega) (by omega)]; omega
    rw [e3, zaa, zag, zaa, e4, zaa, zag, zaa, e5, e6]; simp only [if_true]; exact ih r hmod y u1 u2 (u1 + q * u2) v1 v2 (v1 + q * v2) (!ev) _ _ _ _ _ hst nA nB (by omega) (by omega) (by omega)
   ·rw [if_neg (by omega)]
    simp only [if_true]; exact hQ x y u0 u1 u2 v0 v1 v2 ev hP
  ·rw [if_neg (by omega)]
   simp only [if_true]; exact hQ x y u0 u1 u2 v0 v1 v2 ev hP
end Go.Proofs
namespace Go.Am
def Lrel (a b x y u1 u2 v1 v2 : Nat) (ev : Bool) : Prop :=
 match ev with
 | false => u1 * v2 = u2 * v1 + 1 /\ x + v1 * b = u1 * a /\ y + u2 * a = v2 * b
 | true => u2 * v1 = u1 * v2 + 1 /\ x + u1 * a = v1 * b /\ y + v2 * b = u2 * a
def Lst (u1 u2 v1 v2 : Nat) : Prop := (u1 = 1 /\ v1 = 0 /\ u2 = 0) \/ (u1 <= v1 /\ u2 <= v2 /\ 1 <= u2 /\ 1 <= v1)
def zzd6 (a b u0 u1 v0 v1 : Nat) (ev : Bool) : Prop := ∃ x y, Lrel a b x y u0 u1 v0 v1 (!ev) /\ v1 <= y /\ v0 + v1 <= x - y /\ u0 <= v0 /\ u1 <= v1 /\ 1 <= u1 /\ 1 <= v0 /\ v0 <= v1
def Lsim (a b x y u0 u1 u2 v0 v1 v2 : Nat) (ev : Bool) : Prop := Lrel a b x y u1 u2 v1 v2 ev /\ 1 <= v2 /\ v1 <= v2 /\ Lst u1 u2 v1 v2 /\ (v0 = 0 \/ zzd6 a b u0 u1 v0 v1 ev)
theorem zzar (a b : Nat) : Lsim a b a b 0 1 0 0 0 1 false := ⟨⟨by simp, by simp, by simp⟩, yal _, by omega, .inl ⟨rfl, rfl, rfl⟩, .inl rfl⟩
theorem zzaq {a b x y u0 u1 u2 v0 v1 v2 : Nat} {ev : Bool} (h : Lsim a b x y u0 u1 u2 v0 v1 v2 ev) (hy : 0 < y) (h1 : v2 <= y) (h2 : v1 + v2 <= x - y) :
  Lsim a b y (x % y) u1 u2 (u1 + x / y * u2) v1 v2 (v1 + x / y * v2) (!ev) := by
 obtain ⟨k1, k2, k5, k3, k4⟩ := h
 have hq : 1 <= x / y := by rw [Nat.le_div_iff_mul_le hy]; omega
 have hdm := ybi x y
 generalize x / y = q at *
 generalize x % y = r at *
 have hv2 : v2 <= q * v2 := Nat.le_mul_of_pos_left _ hq
 have hu2 : u2 <= q * u2 := Nat.le_mul_of_pos_left _ hq
 refine ⟨?_, by omega, by omega, ?_, ?_⟩
 ·cases ev with
  | false =>
   obtain ⟨m1, m2, m3⟩ := k1
   refine ⟨?_, m3, ?_⟩
   ·rw [yap, yan, m1]
    have : q * u2 * v2 = u2 * (q * v2) := by rw [yai q u2, yak]
    omega
   ·-- r + (v1 + q v2) b = (u1 + q u2) a
    show r + (v1 + q * v2) * b = (u1 + q * u2) * a
    have e : q * (y + u2 * a) = q * (v2 * b) := by rw [m3]
    rw [yan, <- yak, <- yak, yai q y] at e; rw [yap, yap]; omega
  | true =>
   obtain ⟨m1, m2, m3⟩ := k1
   refine ⟨?_, m3, ?_⟩
   ·show u2 * (v1 + q * v2) = (u1 + q * u2) * v2 + 1
    rw [yap, yan, m1]; have : q * u2 * v2 = u2 * (q * v2) := by rw [yai q u2, yak]
    omega
   ·show r + (u1 + q * u2) * a = (v1 + q * v2) * b
    have e : q * (y + v2 * b) = q * (u2 * a) := by rw [m3]
    rw [yan, <- yak, <- yak, yai q y] at e; rw [yap, yap]; omega
 ·right
  rcases k3 with ⟨e1, e2, e3⟩ | ⟨g1, g2, g3, g4⟩
  ·subst e1 e2 e3
   refine ⟨by omega, ?_, by omega, by omega⟩
   simp only [Nat.mul_zero, yax, Nat.add_zero]; omega
  ·have := yaw q g2
   exact ⟨g2, by omega, by omega, by omega⟩
 ·rcases k3 with ⟨e1, e2, e3⟩ | ⟨g1, g2, g3, g4⟩
  ·exact .inl e2
  ·right
   exact ⟨x, y, by rw [Bool.not_not]; exact k1, h1, h2, g1, g2, g3, g4, k5⟩
end Go.Am
namespace Go.Am
theorem zky {p q r s A B X Y : Nat} (hdet : p * s = q * r + 1) (hX : X + r * B = p * A) (hY : Y + q * A = s * B) : A = s * X + r * Y /\ B = q * X + p * Y := by
 have a1 : s * (X + r * B) = s * (p * A) := by rw [hX]
 have a2 : r * (Y + q * A) = r * (s * B) := by rw [hY]
 have a3 : q * (X + r * B) = q * (p * A) := by rw [hX]
 have a4 : p * (Y + q * A) = p * (s * B) := by rw [hY]
 have d1 : p * s * A = q * r * A + A := by rw [hdet, yap, Nat.one_mul]
 have d2 : p * s * B = q * r * B + B := by rw [hdet, yap, Nat.one_mul]
 have e1 : s * (p * A) = p * s * A := by rw [<- yak, yai s p]
 have e2 : r * (q * A) = q * r * A := by rw [<- yak, yai r q]
 have e3 : s * (r * B) = r * (s * B) := Nat.mul_left_comm _ _ _
 have e4 : q * (p * A) = p * (q * A) := Nat.mul_left_comm _ _ _
 have e5 : q * (r * B) = q * r * B := (yak _ _ _).symm
 have e6 : p * (s * B) = p * s * B := (yak _ _ _).symm
 rw [yan] at a1 a2 a3 a4; constructor <;> omega
theorem zwc {p q r s a b A B W α β x y : Nat} (hx : x + r * b = p * a) (hy : y + q * a = s * b) (hA : A = W * a + α) (hB : B = W * b + β) (ha : α < W) (hb : β < W) (hrs : r + s <= x - y) (h1 : 1 <= r + s) (hq : q <= y) :
  ∃ X Y, X + r * B = p * A /\ Y + q * A = s * B /\ Y < X := by
 obtain ⟨D, hD⟩ : ∃ D, x = y + D := ⟨x - y, by omega⟩
 have w1 : p * A = W * x + r * (W * b) + p * α := by
  rw [hA, yan, Nat.mul_left_comm p W, <- hx, yan, Nat.mul_left_comm W r]
 have w2 : r * B = r * (W * b) + r * β := by rw [hB, yan]
 have w3 : s * B = W * y + q * (W * a) + s * β := by
  rw [hB, yan, Nat.mul_left_comm s W, <- hy, yan, Nat.mul_left_comm W q]
 have w4 : q * A = q * (W * a) + q * α := by rw [hA, yan]
 have i1 : r * β <= W * D := by
  rw [yai W D]; exact Nat.mul_le_mul (by omega) (by omega)
 have i2 : q * α <= W * y := by
  rw [yai W y]; exact Nat.mul_le_mul hq (by omega)
 have i3 : (r + s) * β < W * D := by
  have h2 : (r + s) * β < (r + s) * W := Nat.mul_lt_mul_of_pos_left hb (by omega)
  have h3 : (r + s) * W <= D * W := yaj _ (by omega)
  rw [yai W D]; omega
 have w5 : W * x = W * y + W * D := by rw [hD, yan]
 rw [yap] at i3; exact ⟨p * A - r * B, s * B - q * A, by omega, by omega, by omega⟩
theorem lehmer {a b A B W α β u0 u1 v0 v1 : Nat} {ev : Bool} (hA : A = W * a + α) (hB : B = W * b + β) (ha : α < W) (hb : β < W) (h : zzd6 a b u0 u1 v0 v1 ev) :
  ∃ X Y, (ev = true -> X + v0 * B = u0 * A /\ Y + u1 * A = v1 * B) /\ (ev = false -> X + u0 * A = v0 * B /\ Y + v1 * B = u1 * A) /\ Y < X /\ A = v1 * X + v0 * Y /\ B = u1 * X + u0 * Y /\ X + Y < A + B := by
 obtain ⟨x, y, k1, k2, k3, k4, k5, k6, k7, _⟩ := h
 have fin : ∀ X Y : Nat, Y < X -> A = v1 * X + v0 * Y -> B = u1 * X + u0 * Y -> X + Y < A + B := by
  intro X Y g1 g2 g3; have j1 : X <= v1 * X := Nat.le_mul_of_pos_left _ (by omega)
  have j2 : X <= u1 * X := Nat.le_mul_of_pos_left _ (by omega)
  omega
 cases ev with
 | true =>
  obtain ⟨m1, m2, m3⟩ := k1
  obtain ⟨X, Y, g1, g2, g3⟩ := zwc m2 m3 hA hB ha hb k3 (by omega) (by omega)
  obtain ⟨d1, d2⟩ := zky m1 g1 g2
  exact ⟨X, Y, fun _ => ⟨g1, g2⟩, (fun h => absurd h (by decide)), g3, d1, d2, fin X Y g3 d1 d2⟩
 | false =>
  obtain ⟨m1, m2, m3⟩ := k1
  obtain ⟨X, Y, g1, g2, g3⟩ := zwc m2 m3 hB hA hb ha (by omega) (by omega) k2
  have m1' : v0 * u1 = v1 * u0 + 1 := by rw [yai v0 u1, yai v1 u0]; exact m1
  obtain ⟨d1, d2⟩ := zky m1' g1 g2
  exact ⟨X, Y, (fun h => absurd h (by decide)), fun _ => ⟨g1, g2⟩, g3, d2, d1, fin X Y g3 d2 d1⟩
theorem zz6 {a b u0 u1 v0 v1 : Nat} {ev : Bool} (ha : a < 18446744073709551616) (hb : b < 18446744073709551616) (h : zzd6 a b u0 u1 v0 v1 ev) : u0 < 4294967296 /\ u1 < 4294967296 /\ v0 < 4294967296 /\ v1 < 4294967296 := by
 obtain ⟨x, y, k1, k2, k3, k4, k5, k6, k7, k8⟩ := h
 have key : a = v1 * x + v0 * y := by
  cases ev with
  | true =>
   obtain ⟨m1, m2, m3⟩ := k1
   exact (zky m1 m2 m3).1
  | false =>
   obtain ⟨m1, m2, m3⟩ := k1
   have m1' : v0 * u1 = v1 * u0 + 1 := by rw [yai v0 u1, yai v1 u0]; exact m1
   exact (zky m1' m2 m3).2
 have : v1 < 4294967296 := by
  rcases Nat.lt_or_ge v1 4294967296 with g | g
  ·exact g
  ·exfalso
   have : 4294967296 * 4294967296 <= v1 * x := Nat.mul_le_mul g (by omega)
   omega
 omega
end Go.Am
namespace Go.Am
theorem zza3 {B : Nat} {l : List Nat} {m : Nat} (hl : l.length <= m + 3) : val B l = val B (l.take m) + B ^ m * (wd l m + B * (wd l (m + 1) + B * wd l (m + 2))) := by
 have h0 := zg3 B l m
 have h1 : val B (l.take (m + 2)) = val B (l.take (m + 1)) + B ^ (m + 1) * wd l (m + 1) := zg3 B l (m + 1)
 have h2 : val B (l.take (m + 3)) = val B (l.take (m + 2)) + B ^ (m + 2) * wd l (m + 2) := zg3 B l (m + 2)
 have p1 : B ^ (m + 1) = B ^ m * B := Nat.pow_succ _ _
 have p2 : B ^ (m + 2) = B ^ m * B * B := by rw [Nat.pow_succ, Nat.pow_succ]
 rw [ybb hl] at h2; rw [p1] at h1; rw [p2] at h2; rw [h2, h1, h0, yan (B ^ m), yan B, yan (B ^ m)]
 simp only [yak]; omega
theorem z1w {B p K m : Nat} {l : List Nat} (hB : B = p * K) (hp : 0 < p) (hB0 : 0 < B) (hlt : za5 B l) (hl : l.length <= m + 3) :
  (wd l (m + 2) * B + wd l (m + 1)) * K + wd l m / p = val B l / (B ^ m * p) := by
 have h1 := zza3 (B := B) hl
 have h2 : val B (l.take m) < B ^ m := by
  have h := zhw hB0 (zel hlt m)
  exact Nat.lt_of_lt_of_le h (Nat.pow_le_pow_right hB0 (by simp; omega))
 have h3 : val B l / B ^ m = wd l m + B * (wd l (m + 1) + B * wd l (m + 2)) := by
  rw [h1, Nat.add_mul_div_left _ _ (Nat.pow_pos hB0), Nat.div_eq_of_lt h2, yax]
 rw [<- Nat.div_div_eq_div_mul, h3]; generalize wd l m = x
 have e : B * (wd l (m + 1) + B * wd l (m + 2)) = p * (K * (wd l (m + 2) * B + wd l (m + 1))) := by
  rw [<- yak p, <- hB, yai (wd l (m + 2)), Nat.add_comm]
 rw [e, Nat.add_mul_div_left _ _ hp, yai K, Nat.add_comm]
end Go.Am
namespace Go.Proofs
open Go Go.Am
variable [zcf]
variable {t : Tr zal}
theorem zyh {la lb : List Nat} {pa pb : zab} {m top : Nat} {Q : zaw} (ha : RSl t 1 (zbg .u32 la) pa) (hb : RSl t 1 (zbg .u32 lb) pb) (hal : za5 BB la) (hbl : za5 BB lb) (hla : la.length = m + 3) (hm : m < 700000) (hlb : lb.length <= m + 3) (htop : la[m + 2]? = some top) (ht0 : 0 < top) (hle : val BB lb <= val BB la)
  (hQ : ∀ u0 u1 v0 v1 ev W, 0 < W -> val BB la / W < 18446744073709551616 -> val BB lb / W < 18446744073709551616 -> (v0 = 0 \/ zzd6 (val BB la / W) (val BB lb / W) u0 u1 v0 v1 ev) -> Q (.agg [.int .u64 (u0 : Int), .int .u64 (u1 : Int), .int .u64 (v0 : Int), .int .u64 (v1 : Int), .bool ev]) t) :
  Wc C19 F 315 [pa, pb] t Q := by
 have hBB := zkp
 have htlt : top < 4294967296 := by have := zbt hal htop; omega
 obtain ⟨s, hs, hs1, hs2, hs3⟩ := z7v (t := t) htlt ht0
 obtain ⟨c, off, g1, g2⟩ := ha.idx zea htop
 have hK : BB = 2 ^ (32 - s) * 2 ^ s := by rw [<- Nat.pow_add, show 32 - s + s = 32 by omega, hBB]
 have hp : 0 < 2 ^ (32 - s) := Nat.pow_pos (by decide)
 have va := z1w hK hp zcz hal (m := m) (by omega)
 have vb := z1w hK hp zcz hbl hlb
 have hW : 0 < BB ^ m * 2 ^ (32 - s) := Nat.mul_pos (Nat.pow_pos zcz) hp
 have hdiv : val BB lb / (BB ^ m * 2 ^ (32 - s)) <= val BB la / (BB ^ m * 2 ^ (32 - s)) := Nat.div_le_div_right hle
 have hwt : wd la (m + 2) = top := by unfold wd; rw [htop]; rfl
 have wa1 := zxv zcz hal (m + 1)
 have wa0 := zxv zcz hal m
 have hz : wd la m / 2 ^ (32 - s) < 2 ^ s := Nat.div_lt_of_lt_mul (by rw [<- hK]; exact wa0)
 rw [hBB] at va vb; have bigA : (wd la (m + 2) * 4294967296 + wd la (m + 1)) * 2 ^ s + wd la m / 2 ^ (32 - s) < 18446744073709551616 := by
  rw [hwt]; have q1 : top + 1 <= 2 ^ (32 - s) := by
   have : top * 2 ^ s < 2 ^ (32 - s) * 2 ^ s := by rw [<- hK, hBB]; exact hs2
   exact Nat.lt_of_mul_lt_mul_right this
  have q2 : (top * 4294967296 + wd la (m + 1)) + 1 <= 2 ^ (32 - s) * 4294967296 := by
   have := yaj 4294967296 q1
   omega
  have q3 := yaj (2 ^ s) q2
  have q4 : 2 ^ (32 - s) * 4294967296 * 2 ^ s = 18446744073709551616 := by
   have : 2 ^ (32 - s) * 2 ^ s = 4294967296 := by rw [<- hK, hBB]
   rw [Nat.mul_right_comm, this]
  rw [yap, Nat.one_mul] at q3; omega
 have hBB' : ∀ l, val 4294967296 l = val BB l := fun l => by rw [hBB]
 have hPP : (4294967296 : Nat) ^ m = BB ^ m := by rw [hBB]
 rw [hBB', hPP] at va vb; have zf9 : (wd lb (m + 2) * 4294967296 + wd lb (m + 1)) * 2 ^ s + wd lb m / 2 ^ (32 - s) < 18446744073709551616 := by
  rw [va] at bigA; rw [vb]; exact Nat.lt_of_le_of_lt hdiv bigA
 have h1 := z83 (n := m + 3) (s := s) ha hal (by omega) (by omega) hs (Nat.lt_of_le_of_lt (Nat.le_add_right _ _) bigA)
 have h2 := z83 (n := m + 3) (s := s) hb hbl (by omega) (by omega) hs (Nat.lt_of_le_of_lt (Nat.le_add_right _ _) zf9)
 rw [show m + 3 - 1 = m + 2 by omega, show m + 3 - 2 = m + 1 by omega, show m + 3 - 3 = m by omega] at h1 h2; rw [va] at h1 bigA; rw [vb] at h2 zf9; generalize hw : BB ^ m * 2 ^ (32 - s) = W at *
 have e1 : ((m + 3 : Nat) : Int) - 1 = ((m + 2 : Nat) : Int) := by omega
 refine w315 _ _ ?_
 simp only [t315, wpT, ha.len, zaa, zag, zbj, hla, e1]; rw [zak (by omega) (by omega), g1, zaa, g2, zaa, zag, zaa, q337, hs3, zaa, zag, zaa, q338, h1, zaa, zag, zaa, q338, h2, zaa, zag, zaa]
 simp only [if_true]; exact ztw (P := Lsim (val BB la / W) (val BB lb / W)) bigA zf9 (fun x y u0 u1 u2 v0 v1 v2 ev hP hy k1 k2 => zzaq hP hy k1 k2) (fun x y u0 u1 u2 v0 v1 v2 ev hP => hQ u0 u1 v0 v1 ev W hW bigA zf9 hP.2.2.2.2) _ _ 0 1 0 0 0 1 false 0 0 0 0 false (zzar _ _) (by omega) (by omega) hdiv (by omega) (by omega)
end Go.Proofs
namespace Go.Am
theorem z9b {A B X Y u0 u1 v0 v1 : Nat} {ev : Bool} (h1 : ev = true -> X + v0 * B = u0 * A /\ Y + u1 * A = v1 * B) (h2 : ev = false -> X + u0 * A = v0 * B /\ Y + v1 * B = u1 * A) (hA : A = v1 * X + v0 * Y) (hB : B = u1 * X + u0 * Y) : Nat.gcd X Y = Nat.gcd A B := by
 have gX := Nat.gcd_dvd_left X Y
 have gY := Nat.gcd_dvd_right X Y
 have gA := Nat.gcd_dvd_left A B
 have gB := Nat.gcd_dvd_right A B
 refine Nat.dvd_antisymm (Nat.dvd_gcd ?_ ?_) (Nat.dvd_gcd ?_ ?_)
 ·generalize Nat.gcd X Y = g at *
  rw [hA]; exact Nat.dvd_add (ybf gX _) (ybf gY _)
 ·generalize Nat.gcd X Y = g at *
  rw [hB]; exact Nat.dvd_add (ybf gX _) (ybf gY _)
 ·generalize Nat.gcd A B = g at *
  cases ev with
  | true =>
   have := (h1 rfl).1
   exact (Nat.dvd_add_left (ybf gB v0)).1 (this ▸ ybf gA u0)
  | false =>
   have := (h2 rfl).1
   exact (Nat.dvd_add_left (ybf gA u0)).1 (this ▸ ybf gB v0)
 ·generalize Nat.gcd A B = g at *
  cases ev with
  | true =>
   have := (h1 rfl).2
   exact (Nat.dvd_add_left (ybf gA u1)).1 (this ▸ ybf gB v1)
  | false =>
   have := (h2 rfl).2
   exact (Nat.dvd_add_left (ybf gB v1)).1 (this ▸ ybf gA u1)
theorem z9c {a b q r : Nat} (h : a = b * q + r) : Nat.gcd b r = Nat.gcd a b := by
 subst h; rw [Nat.gcd_comm (b * q + r) b, yai, Nat.gcd_comm b (q * b + r), Nat.gcd_mul_right_add_left]
 exact Nat.gcd_comm _ _
theorem zzh0 {x y : Nat} : Nat.gcd y (x % y) = Nat.gcd x y := by
 rw [Nat.gcd_comm y (x % y), <- Nat.gcd_rec, Nat.gcd_comm]
theorem zve {B : Nat} {l : List Nat} (hB : 0 < B) (h : za5 B l) (hl : l.length <= 2) : val B l < B * B := by
 have h1 := zhw hB h
 have h2 : B ^ l.length <= B ^ 2 := Nat.pow_le_pow_right hB hl
 rw [Nat.pow_two] at h2; omega
end Go.Am
namespace Go.Proofs
open Go Go.Am
variable [zcf]
variable {t : Tr zal}
theorem zbf {c : Prop} {d : Decidable c} {P Q : Prop} (h : c) (k : P) : @ite Prop c d P Q := by rw [if_pos h]; exact k
theorem zb5 {c : Prop} {d : Decidable c} {P Q : Prop} (h : ¬ c) (k : Q) : @ite Prop c d P Q := by rw [if_neg h]; exact k
theorem zzb2 {C : Ctx} {F : Tr zcs} {f : Nat} {g : List zab -> zai -> Option zab} (hg : C.prims.get f = some g) {args : List zab} {v : zab} (h : ∀ X HA, Ov C.base t X HA -> g args HA = some v) : pvC C F f args t = some v := by
 refine zbk.2 fun X HA ho => ?_
 unfold zzv; rw [hg]; exact ⟨v, t, HA, X, by simp only [h X HA ho, zac], ho, XLe.refl _, rfl, rfl⟩
theorem zzi {Q : zaw} : ∀ (y x : Nat), x < 18446744073709551616 -> y < 18446744073709551616 -> (∀ t' r rv, TLe t t' -> RSl t' 1 (zbg .u32 r) rv -> za5 BB r -> norm r -> val BB r = Nat.gcd x y -> Q rv t') -> jp 280 6 [.int .u64 (x : Int), .int .u64 (y : Int)] t Q := by
 have hBB := zkp
 intro y; induction y using Nat.strongRecOn with
 | ind y ih =>
  intro x hx hy hQ; refine j280_6 _ _ ?_
  simp only [zzei, wpT, zjf]; by_cases h0 : y = 0
  ·subst h0
   rw [if_neg (by simp)]
   simp only [q319]; refine zzbq hx fun t' v' h1 h2 => ?_
   have a1 := zxi hx
   have a2 := z2l x
   rw [<- hBB] at a1 a2; exact hQ t' (zsc x) v' h1 h2 a1 (zyw x) (by rw [a2, Nat.gcd_zero_right])
  ·rw [if_pos (by omega), zo8 (by omega), zaa, zag, zaa]
   have hm := Nat.mod_lt x (show 0 < y by omega)
   have hg := zzh0 (x := x) (y := y)
   generalize x % y = z at *
   exact ih z hm y hy (by omega) fun t' r rv k1 k2 k3 k4 k5 => hQ t' r rv k1 k2 k3 k4 (by rw [k5, hg])
theorem z72 {l : List Nat} {v : zab} (hv : RSl t 1 (zbg .u32 l) v) (hl : l.length <= 2) (hlt : za5 BB l) : pvC C19 F 318 [v] t = some (.int .u64 ((val BB l : Nat) : Int)) := by
 have hBB := zkp
 refine zzb2 (g := z7f) (by kernel_rfl) fun X HA ho => ?_
 obtain ⟨cl, he, hd⟩ := hv
 have hcl := hd.length
 rw [zbj] at hcl; rcases he with ⟨rfl, rfl⟩ | ⟨b, off, cap, rfl, _, ⟨c, m, lo, hg, _⟩, he⟩
 ·have : l = [] := ybd.1 (by simpa using hcl.symm)
  subst this; rfl
 ·have hg' := ho.up hg
  have hm : c.many cl.length off = some (l.map fun (n : Nat) => zab.int .u32 (n : Int)) := by
   have h1 := zv6 (c := c) (sz := 1) cl off fun i cs hi => by
    obtain ⟨k1, c', m', lo', k2, k3⟩ := he i cs hi
    rw [hg] at k2; cases k2
    exact ⟨k1, k3⟩
   rw [Nat.mul_one] at h1; rw [h1]; congr 1
   have key : ∀ {l : List Nat} {cl : List (List zab)}, RDs t (zbg .u32 l) cl -> cl.flatten = l.map fun (n : Nat) => zab.int .u32 (n : Int) := by
    intro l; induction l with
    | nil => intro cl h; simp only [zbg, List.map_nil, zbv] at h; subst h; rfl
    | cons a l ih =>
     intro cl h; simp only [zbg, List.map_cons, zbc, zgk] at h; obtain ⟨x, y, rfl, rfl, h2⟩ := h
     rw [List.flatten_cons, ih h2]; rfl
   exact key hd
  have u : ∀ {x : Nat}, x < 4294967296 -> zx4 (.int .u32 (x : Int)) = some x := fun {x} h => by
   unfold zx4; have e1 : zkc (x : Int) = some x := rfl
   simp only [zab.asIntK, zac]; rw [ze3.2 rfl, zaz, e1, zac, zdl.2 h]; rfl
  unfold z7f; simp only [zab.asSlice]; rw [zdl.2 (by omega), cond_true]
  unfold za1; rw [hg', zac]; simp only [zal.asCells, zac]; rw [hm, zac]; match l, hl, hlt with
  | [], _, _ => rfl
  | [x], _, hlt =>
   have hx := hlt x (by simp)
   simp only [List.map_cons, List.map_nil, zy1, val]; rw [u (by omega), zac]
   simp
  | [x, y], _, hlt =>
   have hx := hlt x (by simp)
   have hy := hlt y (by simp)
   simp only [List.map_cons, List.map_nil, zy1, val]; rw [u (by omega), u (by omega), zac, zac, hBB]
   simp
  | x :: y :: z :: l, hl, _ => simp at hl
theorem z95 {la lb : List Nat} {pa pb : zab} {Q : zaw} (ha : RSl t 1 (zbg .u32 la) pa) (hb : RSl t 1 (zbg .u32 lb) pb) (hal : za5 BB la) (hbl : za5 BB lb) (hla : la.length <= 2) (hlb : lb.length <= 2)
  (hQ : ∀ t' r rv, TLe t t' -> RSl t' 1 (zbg .u32 r) rv -> za5 BB r -> norm r -> val BB r = Nat.gcd (val BB la) (val BB lb) -> Q rv t') : jp 280 33 [pa, pb] t Q := by
 have hBB := zkp
 have b1 := zve zcz hal hla
 have b2 := zve zcz hbl hlb
 refine zzhp _ _ ?_
 simp only [z55, wpT, q318, z72 ha hla hal, z72 hb hlb hbl, zaa, zag]; rw [hBB] at b1 b2; have hBB' : ∀ l, val 4294967296 l = val BB l := fun l => by rw [hBB]
 rw [hBB'] at b1 b2; exact zzi _ _ b1 b2 hQ
theorem z96 {Q : zaw} {t0 : Tr zal} {G : Nat} (hQ : ∀ t' r rv, TLe t0 t' -> RSl t' 1 (zbg .u32 r) rv -> za5 BB r -> norm r -> val BB r = G -> Q rv t') : ∀ (n : Nat) (la lb : List Nat) (pa pb : zab) (t : Tr zal), val BB la + val BB lb = n -> TLe t0 t -> RSl t 1 (zbg .u32 la) pa -> RSl t 1 (zbg .u32 lb) pb -> za5 BB la -> za5 BB lb -> norm la -> norm lb -> val BB lb <= val BB la -> la.length < 700000 -> Nat.gcd (val BB la) (val BB lb) = G -> jp 280 2 [pa, pb] t Q := by
 have hBB := zkp
 have hB1 : 1 < BB := by omega
 intro n; induction n using Nat.strongRecOn with
 | ind n ih =>
  intro la lb pa pb t hn ht ha hb hal hbl han hbn hle hlen hg; have hlb : lb.length <= la.length := zfd hB1 hal hbn hle
  refine j280_2 _ _ ?_
  simp only [zzej, wpT, hb.len, zaa, zag, zbj, zat]; by_cases h2 : 2 < lb.length
  ·rw [if_pos (by omega)]
   have hb0 : lb ≠ [] := by intro e; subst e; simp at h2
   have hbpos : 0 < val BB lb := by
    rcases Nat.eq_zero_or_pos (val BB lb) with h | h
    ·exact absurd (zyx zcz hbn h) hb0
    ·exact h
   obtain ⟨m, hm⟩ : ∃ m, la.length = m + 3 := ⟨la.length - 3, by omega⟩
   obtain ⟨top, htop⟩ := getElem?_of_lt (l := la) (i := m + 2) (by omega)
   have ha0 : la ≠ [] := by intro e; subst e; simp at hm
   have ht0 : 0 < top := by
    have := han ha0
    have hlast : la.getLast ha0 = top := by
     rw [List.getLast_eq_getElem]; have : la[la.length - 1]? = some top := by rw [hm]; exact htop
     rw [yae (by omega)] at this
     exact Option.some.inj this
    rw [hlast] at this; omega
   rw [q315]; refine zyh ha hb hal hbl hm (by omega) (by omega) htop ht0 hle fun u0 u1 v0 v1 ev W hW hA hB hL => ?_
   have eG : zrc [(.int .u64 0), (.int .u64 0), (.int .u64 0), (.int .u64 0), (.bool false)] (.agg [.int .u64 (u0 : Int), .int .u64 (u1 : Int), .int .u64 (v0 : Int), .int .u64 (v1 : Int), .bool ev]) = some (cellsOf [.int .u64 (u0 : Int), .int .u64 (u1 : Int), .int .u64 (v0 : Int), .int .u64 (v1 : Int), .bool ev]) := zhq rfl
   rw [eG]; simp only [zaa, cellsOf, zix, zde, yaa, yab, if_true, zfa]; by_cases hv0 : v0 = 0
   ·refine zbf (zc3.2 (by omega)) ?_
    rw [q316]; refine zwz ha hb hlen hal hbl han hbn hb0 fun t' q r qv rv k1 k2 k3 k4 k5 k6 k7 k8 k9 => ?_
    simp only [zas, zab.asTup, zac, zbh, yaa, yab, zaa]; refine ih (val BB lb + val BB r) (by omega) lb r pb rv t' rfl (ht.trans k1) (hb.mono k1) k3 hbl k5 hbn k7 (by omega) (by omega) ?_
    rw [z9c k8]; exact hg
   ·refine zb5 (fun e => absurd (zc3.1 e) (by omega)) ?_
    rcases hL with h | hL
    ·exact absurd h hv0
    obtain ⟨s1, s2, s3, s4⟩ := zz6 hA hB hL
    have eA : val BB la = W * (val BB la / W) + val BB la % W := (ybi _ _).symm
    have eB : val BB lb = W * (val BB lb / W) + val BB lb % W := (ybi _ _).symm
    obtain ⟨X, Y, l1, l2, l3, l4, l5, l6⟩ := lehmer eA eB (Nat.mod_lt _ hW) (Nat.mod_lt _ hW) hL
    have hgg := z9b l1 l2 l4 l5
    have hXA : X <= val BB la := by
     have : X <= v1 * X := Nat.le_mul_of_pos_left _ (by
      obtain ⟨x, y, _, _, _, _, _, _, w2, w3⟩ := hL; omega)
     omega
    cases ev with
    | true =>
     obtain ⟨m1, m2⟩ := l1 rfl
     simp only [if_true]; rw [q317]; refine zgv ha hb hal hbl s1 s3 hlen (by omega) (by omega) fun t1 r1 rv1 k1 k2 k3 k4 k5 => ?_
     rw [q317]; refine zgv (hb.mono k1) (ha.mono k1) hbl hal s4 s2 (by omega) hlen (by omega) fun t2 r2 rv2 j1 j2 j3 j4 j5 => ?_
     have e1 : val BB r1 = X := by omega
     have e2 : val BB r2 = Y := by omega
     refine ih (val BB r1 + val BB r2) (by omega) r1 r2 rv1 rv2 t2 rfl (ht.trans (k1.trans j1)) (k2.mono j1) j2 k3 j3 k4 j4 (by omega) ?_ (by rw [e1, e2, hgg]; exact hg)
     have := zfd hB1 hal k4 (by rw [e1]; exact hXA)
     omega
    | false =>
     obtain ⟨m1, m2⟩ := l2 rfl
     simp only [if_true, yar, if_false]; rw [q317]; refine zgv hb ha hbl hal s3 s1 (by omega) hlen (by omega) fun t1 r1 rv1 k1 k2 k3 k4 k5 => ?_
     rw [q317]; refine zgv (ha.mono k1) (hb.mono k1) hal hbl s2 s4 hlen (by omega) (by omega) fun t2 r2 rv2 j1 j2 j3 j4 j5 => ?_
     have e1 : val BB r1 = X := by omega
     have e2 : val BB r2 = Y := by omega
     refine ih (val BB r1 + val BB r2) (by omega) r1 r2 rv1 rv2 t2 rfl (ht.trans (k1.trans j1)) (k2.mono j1) j2 k3 j3 k4 j4 (by omega) ?_ (by rw [e1, e2, hgg]; exact hg)
     have := zfd hB1 hal k4 (by rw [e1]; exact hXA)
     omega
  ·rw [if_neg (by omega)]
   simp only [zc3]; by_cases h0 : lb.length = 0
   ·rw [if_pos (by omega)]
    have : lb = [] := ybd.1 h0
    subst this; refine hQ t la pa ht ha hal han ?_
    rw [<- hg]; simp only [val]; rw [Nat.gcd_zero_right]
   ·rw [if_neg (by omega)]
    simp only [ha.len, zaa, zag, zbj, zat]; have hb0 : lb ≠ [] := by intro e; subst e; simp at h0
    by_cases h3 : 2 < la.length
    ·rw [if_pos (by omega), q316]
     refine zwz ha hb hlen hal hbl han hbn hb0 fun t' q r qv rv k1 k2 k3 k4 k5 k6 k7 k8 k9 => ?_
     simp only [zas, zab.asTup, zac, zbh, yaa, yab, zaa]; have := zfd hB1 hbl k7 (Nat.le_of_lt k9)
     refine z95 (hb.mono k1) k3 hbl k5 (by omega) (by omega) fun t2 r2 rv2 j1 j2 j3 j4 j5 => ?_
     exact hQ t2 r2 rv2 (ht.trans (k1.trans j1)) j2 j3 j4 (by rw [j5, z9c k8]; exact hg)
    ·rw [if_neg (by omega)]
     refine z95 ha hb hal hbl (by omega) (by omega) fun t2 r2 rv2 j1 j2 j3 j4 j5 => ?_
     exact hQ t2 r2 rv2 (ht.trans j1) j2 j3 j4 (by rw [j5]; exact hg)
theorem cd_ok {la lb : List Nat} {pa pb : zab} {Q : zaw} (ha : RSl t 1 (zbg .u32 la) pa) (hb : RSl t 1 (zbg .u32 lb) pb) (hal : za5 BB la) (hbl : za5 BB lb) (han : norm la) (hbn : norm lb) (hla : la.length < 700000) (hlb : lb.length < 700000)
  (hQ : ∀ t' r rv, TLe t t' -> RSl t' 1 (zbg .u32 r) rv -> za5 BB r -> norm r -> val BB r = Nat.gcd (val BB la) (val BB lb) -> Q rv t') : Wc C19 F 280 [pa, pb] t Q := by
 have hBB := zkp
 have hB1 : 1 < BB := by omega
 have hlt := z92 hB1 hal hbl han hbn
 refine w280 _ _ ?_
 simp only [t280, wpT, q314, zzfw (by omega) ha hb, zaa, zag, zat]
 by_cases hc : zur la lb < 0
 ·rw [if_pos hc]
  have := hlt.1 hc
  exact z96 hQ _ lb la pb pa t rfl (TLe.refl _) hb ha hbl hal hbn han (by omega) hlb (Nat.gcd_comm _ _)
 ·rw [if_neg hc]
  have : val BB lb <= val BB la := Nat.le_of_not_lt fun h => hc (hlt.2 h)
  exact z96 hQ _ la lb pa pb t rfl (TLe.refl _) ha hb hal hbl han hbn this hla rfl
end Go.Proofs
namespace Go.Am
open Go Go.RowKit
section
variable {t tf : Tr zal} {C : Ctx}
theorem zdb {n : Nat} (hn : t.get n = none) (q : zal) : TLe t (t.set n q) /\ Off n t (t.set n q) :=
 ⟨fun c u hc => by rw [Tr.get_set, if_neg (by intro e; rw [e, hn] at hc; cases hc)]; exact hc, fun c hc => by rw [Tr.get_set, if_neg hc]⟩
theorem z33 {sz n : Nat} {cl : List (List zab)} {t' : Tr zal} {lo : Option Nat} (hl : ∀ (i : Nat) cs, cl[i]? = some cs -> cs.length = sz) (h : t'.get n = some (.cells (Tr.ofList cl.flatten) (zbw cl.flatten) lo)) (hlo : lo = none \/ lo = some sz) {k : Nat} (hk : cl.length = k) : zhn t' sz (.slice n 0 k k) cl := by
 subst hk; exact zmw hl h hlo
theorem zhf {T el sz n : Nat} {y z : ATy} {ps : List (Nat × zab)} {cl : List (List zab)} (hT : C.tys.get T = some y) (hel : y.desc.asSlice = some el) (hz : C.tys.get el = some z) (hs : z.size = sz) (h0 : zbw z.zero = sz) (hn : n * sz < 1000000)
  (hfill : zoz (fun i => some (i * sz, sz)) ps (zsj z.zero n) = some cl.flatten) (hcl : ∀ (i : Nat) cs, cl[i]? = some cs -> cs.length = sz) (hlen : cl.length = n) {b : Nat} (hb : t.get b = none) :
  ∃ t', za0 C T n ps ⟨b, t⟩ = some (.slice b 0 n n, ⟨b + 1, t'⟩) /\ zhn t' sz (.slice b 0 n n) cl /\ TLe t t' /\ Off b t t' := by
 refine ⟨t.set b (.cells (Tr.ofList cl.flatten) (zbw cl.flatten) none), ?_, z33 hcl (by rw [Tr.get_set, if_pos rfl]) (.inl rfl) hlen, (zdb hb _).1, (zdb hb _).2⟩
 unfold za0; rw [hT, zac, hel, zac, hz, zac]; have : (Nat.blt (n * z.size) 1000000 && Nat.beq (zbw z.zero) z.size) = true := by
  rw [hs, h0, zdl.2 hn, zc0.2 rfl]; rfl
 rw [this, zaz, hs, hfill]; rfl
def Loose (base : Nat) (tf t : Tr zal) (sz : Nat) (l : List D) (v : zab) : Prop :=
 (v = .nilslice /\ l = []) \/ ∃ b cl c, v = .slice b 0 l.length l.length /\ base <= b /\ tf.get b = none /\ t.get b = some (.cells c (l.length * sz) (some sz)) ∧
  (∀ (i : Nat) cs, cl[i]? = some cs -> cs.length = sz /\ ∀ (j : Nat) a, cs[j]? = some a -> c.get (i * sz + j) = some a) /\ RDs tf l cl
def zrw (v : zab) (b : Nat) : Prop := ∃ o n c, v = .slice b o n c
theorem z8z {b : Nat} : ¬ zrw .nilslice b := fun ⟨_, _, _, h⟩ => by cases h
theorem zhj {b c o n k : Nat} : zrw (.slice b o n k) c ↔ c = b := ⟨fun ⟨_, _, _, h⟩ => by cases h; rfl, fun h => by subst h; exact ⟨_, _, _, rfl⟩⟩
theorem Loose.read {base sz : Nat} {l : List D} {v : zab} (h : Loose base tf t sz l v) (ht : TLe tf t) : RSl t sz l v := by
 rcases h with ⟨rfl, rfl⟩ | ⟨b, cl, c, rfl, _, _, h1, h2, h3⟩
 ·exact ⟨[], .inl ⟨rfl, rfl⟩, zbv.2 rfl⟩
 ·have hlen := h3.length
  refine ⟨cl, .inr ⟨b, 0, l.length, by rw [hlen], by omega, ⟨c, _, _, h1, .inr rfl⟩, fun i cs hi => ⟨(h2 i cs hi).1, c, _, _, h1, fun j a hj => ?_⟩⟩, RDs.mono ht _ _ h3⟩
  rw [yax]; exact (h2 i cs hi).2 j a hj
theorem Loose.len {base sz : Nat} {l : List D} {v : zab} (h : Loose base tf t sz l v) : zba v = some (.int .i64 (l.length : Int)) := by
 rcases h with ⟨rfl, rfl⟩ | ⟨b, cl, c, rfl, _⟩
 ·rfl
 ·rfl
theorem Loose.one {base sz : Nat} {l : List D} {v : zab} (h : Loose base tf t sz l v) : zab.one v = true := by
 rcases h with ⟨rfl, rfl⟩ | ⟨b, cl, c, rfl, _⟩ <;> rfl
theorem Loose.same {base sz d : Nat} {l : List D} {v : zab} (h : Loose base tf t sz l v) : same d v v = true := by
 rcases h with ⟨rfl, rfl⟩ | ⟨b, cl, c, rfl, _⟩
 ·cases d <;> (unfold Am.same; rfl)
 ·have e : ∀ n, Nat.beq n n = true := Nat.beq_refl
  cases d <;> (unfold Am.same; simp only [e, Bool.and_self])
theorem Loose.none {base sz : Nat} {l : List D} {v : zab} (h : Loose base tf t sz l v) {b : Nat} (hb : zrw v b) : tf.get b = none /\ base <= b /\ ∃ y, t.get b = some y := by
 rcases h with ⟨rfl, rfl⟩ | ⟨c, cl, x, rfl, h1, h2, h3, _⟩
 ·exact absurd hb z8z
 ·rw [zhj] at hb; subst hb; exact ⟨h2, h1, _, h3⟩
theorem Loose.keep {base sz : Nat} {l : List D} {v : zab} {t' tf' : Tr zal} (h : Loose base tf t sz l v) (hf : TLe tf tf') (hk : ∀ b, zrw v b -> t'.get b = t.get b /\ tf'.get b = Option.none) : Loose base tf' t' sz l v := by
 rcases h with ⟨rfl, rfl⟩ | ⟨b, cl, c, rfl, h0, h1, h2, h3, h4⟩
 ·exact .inl ⟨rfl, rfl⟩
 ·obtain ⟨k1, k2⟩ := hk b (zhj.2 rfl)
  exact .inr ⟨b, cl, c, rfl, h0, k2, by rw [k1]; exact h2, h3, RDs.mono hf _ _ h4⟩
theorem zf6 {T el sz : Nat} (hT : zxq C T el sz) {l m : List D} {v x : zab} {cm : List (List zab)} (hv : Loose C.base tf t sz l v) (hx : zhn t sz x cm) (hm : RDs tf m cm) (hone : ∀ a ∈ cm.flatten, zab.one a = true) (hpos : 0 < m.length) (hl : l.length + m.length < 400000) {n : Nat} (hn : t.get n = none) (hbase : C.base <= n) (ht : TLe tf t) :
  ∃ t', zbn C T T v x ⟨n, t⟩ = some (.slice n 0 (l.length + m.length) (l.length + m.length), ⟨n + 1, t'⟩) /\ Loose C.base tf t' sz (l ++ m) (.slice n 0 (l.length + m.length) (l.length + m.length)) /\ TLe tf t' /\ (∀ c, c ≠ n -> ¬ zrw v c -> t'.get c = t.get c) := by
 obtain ⟨⟨y, hy1, hy2, hy3⟩, ⟨z, hz1, hz2, hz3, hz4, hz5⟩⟩ := hT
 have hcm := hm.length
 obtain ⟨hf, hlen⟩ := hx.first (n := n)
 have hall := hx.len
 have hflat := zf0 hall
 have hfl : zbw cm.flatten = cm.length * sz := by rw [zbb]; exact hflat
 have hfn : tf.get n = none := by
  cases hq : tf.get n with
  | none => rfl
  | some u => rw [ht _ _ hq] at hn; cases hn
 have base : zbn C T T v x ⟨n, t⟩ = (match v.asSlice with
  | some s => bif Nat.ble (s.2.2.1 + cm.length) s.2.2.2 then zfz C ⟨n, t⟩ z cm.length cm.flatten s else zhl C ⟨n, t⟩ z cm.length cm.flatten s
  | none => zao (Nat.beq v.tag 5) (zfg ⟨n, t⟩ z cm.length cm.flatten)) := by
  unfold zbn zge; rw [hy1, zac, zac, hy3]; simp only [Bool.not_false, zaz]; rw [hy2, zac, hz1, zac, hlen, zac, hz2, hf, zac]; rfl
 have ok : ziy z l.length l.length cm.length cm.flatten = true := by
  unfold ziy; have h1 : Nat.blt (l.length + cm.length + l.length) 1000000000 = true := zdl.2 (by omega)
  have h2 : Nat.blt ((l.length + cm.length + l.length) * z.bytes) 1000000000 = true := zdl.2 (by
   have := Nat.mul_le_mul (show l.length + cm.length + l.length <= 800000 by omega) hz4
   omega)
  have h3 : Nat.blt z.bytes 1000000000 = true := zdl.2 (by omega)
  have h4 : (!Nat.beq z.size 0) = true := by
   cases hq : Nat.beq z.size 0 with
   | true => have := zc0.1 hq; omega
   | false => rfl
  have h5 : Nat.beq (zbw cm.flatten) (cm.length * z.size) = true := by rw [hfl, hz2]; exact zc0.2 rfl
  have h6 : Nat.beq (zbw z.zero) z.size = true := by rw [hz3, hz2]; exact zc0.2 rfl
  rw [h1, h2, h3, h4, h5, h6]; rfl
 rcases hv with ⟨rfl, rfl⟩ | ⟨b, cl, c, rfl, hb0, hb1, hb2, hb3, hb4⟩
 ·refine ⟨t.set n (.cells (Tr.ofList cm.flatten) (zbw cm.flatten) (some z.size)), ?_, .inr ⟨n, cm, Tr.ofList cm.flatten, by simp, hbase, hfn, ?_, fun i cs hi => ⟨hall i cs hi, fun j a hj => ?_⟩, by simpa using hm⟩, ?_, fun c hc _ => (zdb hn _).2 c hc⟩
  ·rw [base]
   simp only [zab.asSlice]; show zao true (zfg ⟨n, t⟩ z cm.length cm.flatten) = _
   rw [zaz]; unfold zfg; have : Nat.beq cm.length 0 = false := by
    cases hq : Nat.beq cm.length 0 with
    | true => have := zc0.1 hq; omega
    | false => rfl
   have ok : ziy z 0 0 cm.length cm.flatten = true := ok
   rw [this, cond_false, ok, zaz, hcm]; simp only [yay, yax]; rfl
  ·rw [Tr.get_set, if_pos rfl, hfl, hz2, hcm]; simp
  ·rw [Tr.get_ofList]; exact zf1 hall i j cs a hi hj
  ·exact ht.trans (zdb hn _).1
 ·have hcl := hb4.length
  have hbn : b ≠ n := by intro e; rw [e, hn] at hb2; cases hb2
  refine ⟨(t.del b).set n (.cells (c.setMany cm.flatten (l.length * z.size)) ((l.length + cm.length) * z.size) (some z.size)), ?_, .inr ⟨n, cl ++ cm, c.setMany cm.flatten (l.length * z.size), by simp, hbase, hfn, ?_, fun i cs hi => ?_, ?_⟩, fun k u hk => ?_, fun k hk1 hk2 => ?_⟩
  ·rw [base]
   simp only [zab.asSlice]; have : Nat.ble (l.length + cm.length) l.length = false := by
    cases hq : Nat.ble (l.length + cm.length) l.length with
    | true => have := zj2.1 hq; omega
    | false => rfl
   rw [this, cond_false]; unfold zhl; simp only []; rw [ok, zaz]; unfold za1; rw [hb2, zac]; simp only [zal.asCells, zac]; unfold ziz; simp only []; have g1 : Nat.beq sz z.size = true := zc0.2 hz2.symm
   have g2 : Nat.ble (l.length * sz) (l.length * sz) = true := zj2.2 (yal _)
   have g3 : Nat.ble (l.length * sz) ((l.length + cm.length) * sz) = true := zj2.2 (yaj _ (by omega))
   have g4 : zeb zab.one cm.flatten = true := by rw [zcb]; exact ybc.2 hone
   have g5 : (!Nat.blt b C.base) = true := by
    cases hq : Nat.blt b C.base with
    | true => have := zdl.1 hq; omega
    | false => rfl
   rw [g1, g2, g3, g4, g5]; simp only [hz2, hcm]; rfl
  ·rw [Tr.get_set, if_pos rfl, hz2, hcm, yah]
  ·rw [List.getElem?_append] at hi
   split at hi
   ·rename_i hlt
    obtain ⟨k1, k2⟩ := hb3 i cs hi
    refine ⟨k1, fun j a hj => ?_⟩
    have hjl : j < sz := by rw [<- k1]; exact (yad.1 hj).1
    have : i * sz + j < l.length * sz := by
     have := yaj sz (show i + 1 <= l.length by omega)
     rw [yap] at this; omega
    rw [Tr.get_setMany, hz2, if_neg (by omega)]
    exact k2 j a hj
   ·rename_i hge
    have k1 := hall _ cs hi
    refine ⟨k1, fun j a hj => ?_⟩
    have hf1 := zf1 hall _ j cs a hi hj
    have hlt := (yad.1 hf1).1
    have e : i * sz = l.length * sz + (i - cl.length) * sz := by rw [<- yap]; congr 1; omega
    rw [Tr.get_setMany, hz2, if_pos (by omega), show i * sz + j - l.length * sz = (i - cl.length) * sz + j by omega]
    exact hf1
  ·have app : ∀ {l m : List D} {cl cm : List (List zab)}, RDs tf l cl -> RDs tf m cm -> RDs tf (l ++ m) (cl ++ cm) := by
    intro l; induction l with
    | nil => intro m cl cm h k; rw [zbv] at h; subst h; exact k
    | cons d l ih =>
     intro m cl cm h k; rw [zbc] at h; obtain ⟨c, r, rfl, h1, h2⟩ := h
     exact zbc.2 ⟨c, r ++ cm, rfl, h1, ih h2 k⟩
   exact app hb4 hm
  ·have h1 : k ≠ b := by intro e; rw [e, hb1] at hk; cases hk
   have h2 : k ≠ n := by intro e; rw [e, hfn] at hk; cases hk
   rw [Tr.get_set, if_neg h2, Tr.get_del, if_neg h1]; exact ht _ _ hk
  ·rw [Tr.get_set, if_neg hk1, Tr.get_del, if_neg (fun e => hk2 (zhj.2 e))]
theorem Loose.freeze {base sz : Nat} {l : List D} {v : zab} (h : Loose base tf t sz l v) (ht : TLe tf t) : ∃ tf', TLe tf tf' /\ TLe tf' t /\ RSl tf' sz l v /\ ∀ b, ¬ zrw v b -> tf'.get b = tf.get b := by
 rcases h with ⟨rfl, rfl⟩ | ⟨b, cl, c, rfl, h0, h1, h2, h3, h4⟩
 ·exact ⟨tf, TLe.refl _, ht, ⟨[], .inl ⟨rfl, rfl⟩, zbv.2 rfl⟩, fun _ _ => rfl⟩
 ·have hlen := h4.length
  refine ⟨tf.set b (.cells c (l.length * sz) (some sz)), (zdb h1 _).1, fun k u hk => ?_, ⟨cl, .inr ⟨b, 0, l.length, by rw [hlen], by omega, ⟨c, _, _, by rw [Tr.get_set, if_pos rfl], .inr rfl⟩, fun i cs hi => ⟨(h3 i cs hi).1, c, _, _, (by rw [Tr.get_set, if_pos rfl]), fun j a hj => ?_⟩⟩, RDs.mono (zdb h1 _).1 _ _ h4⟩, fun k hk => by rw [Tr.get_set, if_neg (fun e => hk (zhj.2 e))]⟩
  ·rw [Tr.get_set] at hk
   split at hk
   ·rename_i e; subst e; cases hk; exact h2
   ·exact ht _ _ hk
  ·rw [yax]; exact (h3 i cs hi).2 j a hj
end
end Go.Am
namespace Go.Proofs
open Go Go.Am
variable [zcf]
variable {t : Tr zal}
theorem zml {neg : Bool} {l : List Nat} (h : zii neg l = true) : norm l := by
 intro hne; unfold zii at h; rw [if_neg hne, yac] at h; have := of_decide_eq_true h.2
 intro e; exact this (by rw [List.getLast?_eq_some_getLast hne, e])
theorem zuu {l : List zdq} {v : zab} (hv : RSl t 2 (l.map zdq.d) v) (hb : ∀ w ∈ l, w.limbs.length < 1125899906842624) (hn : l.length < 1125899906842624) : ∀ (k i : Nat), i + k = l.length -> jp 278 2 [v, .int .i64 (l.length : Int), .int .i64 (i : Int)] t (fun r m => r = .bool ((l.drop i).all fun w => zii w.neg w.limbs) /\ m = t) := by
 intro k; induction k with
 | zero =>
  intro i hi; refine zzfg _ _ _ ?_
  simp only [z57, wpT, zat]; rw [if_neg (by omega), yau (by omega)]
  (first | exact ⟨rfl, rfl⟩ | exact ⟨rfl, trivial⟩ | trivial)
 | succ k ih =>
  intro i hi; have hlt : i < l.length := by omega
  have hx : l[i]? = some l[i] := yae hlt
  obtain ⟨b, off, cs, g1, g2, _, _, g5⟩ := zjo.at sl326 (by simp) hv (i := i) (d := l[i].d) (by simp [hx])
  obtain ⟨u, rfl, hu⟩ := ztz g5
  have hv1 := zth (neg := l[i].neg) (hb _ (List.getElem_mem hlt)) hu
  refine zzfg _ _ _ ?_
  simp only [z57, wpT, zat]; rw [if_pos (by omega), g1, zaa, g2, zxx, zaa, zkm g5 (zdq.zs _)]
  simp only [zaa, cellsOf, zde, ze6, yaa, yab]; have hone : zeb zab.one [.bool l[i].neg, u] = true := by
   show (bif zab.one (.bool l[i].neg) then (bif zab.one u then true else false) else false) = true
   rw [hu.one]; rfl
  refine zbf hone ?_
  rw [q173, hv1]; simp only [zaa, zax, zo5]; rw [yam hlt, ybh]
  cases hq : zii l[i].neg l[i].limbs with
  | false => simp
  | true =>
   simp only [Bool.true_and, Bool.true_eq_false, if_false]; rw [zak (by omega) (by omega)]
   exact ih (i + 1) (by omega)
theorem zz3 {l : List zdq} {v : zab} (hv : RSl t 2 (l.map zdq.d) v) (hb : ∀ w ∈ l, w.limbs.length < 1125899906842624) (hn : l.length < 1125899906842624) : pvC C19 F 278 [v] t = some (.bool (l.all fun w => zii w.neg w.limbs)) := by
 refine zbk.2 (w278 _ ?_)
 simp only [t278, wpT, hv.len, zaa, zag, yag]; have := zuu hv hb hn l.length 0 (by omega)
 rw [List.drop_zero] at this; exact this
theorem gcd_ok {n d : zdq} {u v : zab} {Q : zaw} (hu : RSl t 1 (zd2 n.limbs) u) (hv : RSl t 1 (zd2 d.limbs) v) (hn : n.limbs.length < 700000) (hd : d.limbs.length < 700000) (hnl : za5 65536 n.limbs) (hdl : za5 65536 d.limbs) (hnv : zii n.neg n.limbs = true) (hdv : zii d.neg d.limbs = true)
  (hQ : ∀ t' g rv, TLe t t' -> RSl t' 1 (zd2 g) rv -> za5 65536 g -> norm g -> val 65536 g = Nat.gcd (val 65536 n.limbs) (val 65536 d.limbs) -> Q (.tup [.agg [.bool false, rv], .int .i64 0]) t') : Wc C19 F 235 [.agg [.bool n.neg, u], .agg [.bool d.neg, v]] t Q := by
 have hBB := zkp
 refine w235 _ _ _ _ ?_
 simp only [t235, wpT]; intro b hb hbase; obtain ⟨t1, g1, g2, g3, g4⟩ := zhf (C := C19) (T := 326) (el := 43) (sz := 2) (n := 2) (cl := [[.bool n.neg, u], [.bool d.neg, v]]) (ps := [(0, .agg [.bool n.neg, u]), (1, .agg [.bool d.neg, v])]) ty326 rfl ty43 rfl rfl (by decide) rfl (fun i cs hi => by
  rcases i with _ | _ | i
  ·simp at hi; subst hi; rfl
  ·simp at hi; subst hi; rfl
  ·simp at hi) rfl hb
 rw [g1, zaa]; have hw : RSl t1 2 ([n, d].map zdq.d) (.slice b 0 2 2) := ⟨_, g2, by
  simp only [List.map_cons, List.map_nil, zbc, zbv]; refine ⟨_, _, rfl, ?_, _, _, rfl, ?_, rfl⟩
  ·unfold zdq.d
   rw [zig]; refine ⟨[[.bool n.neg], [u]], rfl, ?_⟩
   simp only [zbc, zbv, zih, zk9]; exact ⟨_, _, rfl, rfl, _, _, rfl, ⟨u, rfl, hu.mono g3⟩, rfl⟩
  ·unfold zdq.d
   rw [zig]; refine ⟨[[.bool d.neg], [v]], rfl, ?_⟩
   simp only [zbc, zbv, zih, zk9]; exact ⟨_, _, rfl, rfl, _, _, rfl, ⟨v, rfl, hv.mono g3⟩, rfl⟩⟩
 have hall := zz3 hw (fun w hw => by
  rcases yat.1 hw with rfl | hw
  ·omega
  ·rw [List.mem_singleton.1 hw]; omega) (by simp)
 rw [q278, hall]; simp only [zaa, zax, zo5, ybh, List.all_nil, hnv, hdv, Bool.and_self, Bool.true_eq_false, if_false]; rw [q281]; refine z7d (hu.mono g3) (by omega) hnl fun t2 v2 k1 k2 => ?_
 rw [if_pos hv.same, q281]; refine z7d ((hv.mono g3).mono k1) (by omega) hdl fun t3 v3 m1 m2 => ?_
 have an := zl2 hnl
 have ad := zl2 hdl
 rw [<- hBB] at an ad; rw [q280]; refine cd_ok (k2.mono m1) m2 an ad (znh (zml hnv)) (znh (zml hdv)) (by rw [zev]; omega) (by rw [zev]; omega) fun t4 r rv p1 p2 p3 p4 p5 => ?_
 rw [hBB] at p3; have vn : ∀ l, val BB (zer l) = val 65536 l := fun l => by rw [hBB]; exact zu8 l
 rw [vn, vn] at p5; have hrl : r.length < 400000 := by
  have hB1 : 1 < BB := by omega
  rcases Nat.eq_zero_or_pos (val 65536 n.limbs) with h0 | h0
  ·rw [h0, Nat.gcd_zero_left, <- vn] at p5
   have := zfd hB1 ad p4 (Nat.le_of_eq p5)
   rw [zev] at this; omega
  ·have h1 := Nat.gcd_le_left (val 65536 d.limbs) h0
   rw [<- p5, <- vn] at h1; have := zfd hB1 an p4 h1
   rw [zev] at this; omega
 rw [q279]; refine z48 p2 hrl p3 fun t5 v5 s1 s2 => ?_
 rw [zik p4] at s2 ⊢
 have eG : zrc [(.bool false), .nilslice] (.agg [.bool (if r = [] then false else false), v5]) = some (cellsOf [.bool (if r = [] then false else false), v5]) := zhq (by
  show (true && (zj1 .nilslice v5 && true)) = true
  rw [zbi s2]; rfl)
 rw [eG]; have hone : zeb zab.one [.bool false, v5] = true := by
  show (bif zab.one (.bool false) then (bif zab.one v5 then true else false) else false) = true
  rw [s2.one]; rfl
 simp only [zaa, cellsOf, zde, ze6, yaa, yab, ite_self, hone, if_true]; refine hQ t5 (zc9 (zbz r)) v5 (g3.trans (k1.trans (m1.trans (p1.trans s1)))) s2 (zdw (zm5 p3)) (zej _) ?_
 rw [zes, <- p5, zpj, hBB]
end Go.Proofs
namespace Go.Am
def zem.fit (f : zem) : Prop := f.ok /\ za5 65536 f.n.limbs /\ za5 65536 f.d.limbs
def zcg.fit (v : zcg) : Prop := v.kind < 256 /\ v.f.fit /\ -9223372036854775808 <= v.i /\ v.i < 9223372036854775808
mutual
def zam.fit : zam -> Prop
 | .mk op name v args => op < 256 /\ name.length < zf9 /\ (∀ c ∈ name, c < 256) /\ v.fit /\ args.length < zf9 /\ zam.fits args
def zam.fits : List zam -> Prop
 | [] => True
 | x :: l => x.fit /\ zam.fits l
end
theorem zam.fits_mem : ∀ {l : List zam}, zam.fits l -> ∀ x ∈ l, x.fit
 | [], _, _, h => by cases h
 | y :: l, h, x, hx => by
  unfold zam.fits at h; rcases yat.1 hx with rfl | hx
  ·exact h.1
  ·exact zam.fits_mem h.2 x hx
mutual
theorem zam.fit_ok : ∀ {x : zam}, x.fit -> x.ok
 | .mk op name v args, h => by
  unfold zam.fit at h; unfold zam.ok; exact ⟨h.2.1, h.2.2.2.1.2.1.1, h.2.2.2.2.1, zam.fits_oks h.2.2.2.2.2⟩
theorem zam.fits_oks : ∀ {l : List zam}, zam.fits l -> zam.oks l
 | [], _ => by unfold zam.oks; trivial
 | x :: l, h => by
  unfold zam.fits at h; unfold zam.oks; exact ⟨zam.fit_ok h.1, zam.fits_oks h.2⟩
end
def i64 (n : Int) : Prop := -9223372036854775808 <= n /\ n < 9223372036854775808
def zhs.fit (r : zhs) : Prop := i64 r.a /\ i64 r.b /\ i64 r.known /\ r.f.fit
def zb9.fit (x : zb9) : Prop := x.name.length < zf9 /\ x.rows.length < zf9 /\ ∀ r ∈ x.rows, r.fit
def zxp.fit (x : zxp) : Prop := x.name.length < zf9 /\ x.kind < 256
def za4.fit (x : za4) : Prop := x.name.length < zf9 /\ x.label.length < zf9 /\ i64 x.from_ /\ i64 x.to /\ i64 x.known /\ x.when_.fit /\ x.then_.fit
structure zi6.fit (p : zi6) : Prop where
 name : p.name.length < zf9
 ndefs : p.defs.length < zf9
 ntables : p.tables.length < zf9
 nclauses : p.clauses.length < zf9
 defs : ∀ d ∈ p.defs, d.fit
 tables : ∀ d ∈ p.tables, d.fit
 clauses : ∀ d ∈ p.clauses, d.fit
end Go.Am
namespace Go.Proofs
open Go Go.Am
variable [zcf]
variable {t : Tr zal}
def zyj (a b : zdq) : Bool := (a.neg == b.neg) && decide (a.limbs = b.limbs)
def z24 (a b : zem) : Bool := zyj a.n b.n && zyj a.d b.d
def z23 (a b : zcg) : Bool := decide (a.kind = b.kind) && decide (a.i = b.i) && z24 a.f b.f
def z8y (w : zdq) : Bool := !w.neg && decide (w.limbs = [1])
def zl5 (f : zem) : Bool := decide (f.n.limbs.length <= 256) && decide (f.d.limbs.length <= 256) && zii f.n.neg f.n.limbs && zii f.d.neg f.d.limbs && !f.d.neg && decide (f.d.limbs ≠ []) && (z8y f.d || decide (Nat.gcd (val 65536 f.n.limbs) (val 65536 f.d.limbs) = 1))
theorem iLt_b {a b : Int} : iLt a b = decide (a < b) := by
 cases h : iLt a b with
 | true => rw [decide_eq_true (zat.1 h)]
 | false => rw [decide_eq_false (fun k => by rw [zat.2 k] at h; cases h)]
theorem z81 {a b : Int} : iLe a b = decide (a <= b) := by
 cases h : iLe a b with
 | true => rw [decide_eq_true (zda.1 h)]
 | false => rw [decide_eq_false (fun k => by rw [zda.2 k] at h; cases h)]
theorem iEq_b {a b : Int} : iEq a b = decide (a = b) := by
 cases h : iEq a b with
 | true => rw [decide_eq_true (zc3.1 h)]
 | false => rw [decide_eq_false (fun k => by rw [zc3.2 k] at h; cases h)]
theorem z32 {a b : List Nat} {u v : zab} (hu : RSl t 1 (zd2 a) u) (hv : RSl t 1 (zd2 b) v) (hl : a.length = b.length) (hn : a.length < 1125899906842624) : ∀ (k i : Nat), i + k = a.length -> jp 171 2 [u, v, .int .i64 (a.length : Int), .int .i64 (i : Int)] t (fun r m => r = .bool (decide (a.drop i = b.drop i)) /\ m = t) := by
 intro k; induction k with
 | zero =>
  intro i hi; refine zzfl _ _ _ _ ?_
  simp only [z6d, wpT, zat]; rw [if_neg (by omega), yau (by omega), yau (by omega)]
  (first | exact ⟨rfl, rfl⟩ | exact ⟨rfl, trivial⟩ | trivial)
 | succ k ih =>
  intro i hi; have h1 : i < a.length := by omega
  have h2 : i < b.length := by omega
  have hx : a[i]? = some a[i] := yae h1
  have hy : b[i]? = some b[i] := yae h2
  obtain ⟨c, off, g1, g2⟩ := RSl.idx (C := C19) zzbo hu hx
  obtain ⟨d, off', g3, g4⟩ := RSl.idx (C := C19) zzbo hv hy
  refine zzfl _ _ _ _ ?_
  simp only [z6d, wpT, zat, g1, g2, g3, g4, zaa, zag, zjf]; rw [if_pos (by omega), yam h1, yam h2]
  by_cases he : a[i] = b[i]
  ·rw [if_neg (by omega), zak (by omega) (by omega)]
   have := ih (i + 1) (by omega)
   rw [he]; simp only [List.cons.injEq, true_and]; exact this
  ·rw [if_pos (by omega)]
   have hne : ¬ (a[i] :: a.drop (i + 1) = b[i] :: b.drop (i + 1)) := fun e => he (List.cons.inj e).1
   rw [decide_eq_false hne]; (first | exact ⟨rfl, rfl⟩ | exact ⟨rfl, trivial⟩ | trivial)
theorem zzdf {a b : List Nat} {u v : zab} (hu : RSl t 1 (zd2 a) u) (hv : RSl t 1 (zd2 b) v) (hn : a.length < 1125899906842624) : pvC C19 F 171 [u, v] t = some (.bool (decide (a = b))) := by
 refine zbk.2 (w171 _ _ ?_)
 simp only [t171, wpT, hu.len, hv.len, zaa, zag, zjl, zjf]; by_cases hl : a.length = b.length
 ·rw [if_neg (by omega)]
  have := z32 hu hv hl hn a.length 0 (by omega)
  simpa using this
 ·rw [if_pos (by omega)]
  have : a ≠ b := fun e => hl (by rw [e])
  simp [this]
theorem z0u {a b : zdq} {u v : zab} (hu : RSl t 1 (zd2 a.limbs) u) (hv : RSl t 1 (zd2 b.limbs) v) (hn : a.limbs.length < 1125899906842624) : pvC C19 F 105 [.agg [.bool a.neg, u], .agg [.bool b.neg, v]] t = some (.bool (zyj a b)) := by
 refine zbk.2 (w105 _ _ _ _ ?_)
 simp only [t105, wpT, q171, zzdf hu hv hn, zaa, zax]; unfold zyj
 cases ha : a.neg <;> cases hb : b.neg <;> simp [bEq]
theorem z0v {a b : zem} {u v x y : zab} (hu : RSl t 1 (zd2 a.n.limbs) u) (hv : RSl t 1 (zd2 a.d.limbs) v) (hx : RSl t 1 (zd2 b.n.limbs) x) (hy : RSl t 1 (zd2 b.d.limbs) y) (hn : a.ok) : pvC C19 F 53 [.agg [.bool a.n.neg, u, .bool a.d.neg, v], .agg [.bool b.n.neg, x, .bool b.d.neg, y]] t = some (.bool (z24 a b)) := by
 unfold zem.ok zf9 at hn; refine zbk.2 (w53 _ _ _ _ _ _ _ _ ?_)
 simp only [t53, wpT, q105, z0u hu hx (by omega), z0u hv hy (by omega), zaa, zax]
 unfold z24
 cases zyj a.n b.n <;> simp
theorem zzbv {a b : zcg} {u v x y : zab} (hu : RSl t 1 (zd2 a.f.n.limbs) u) (hv : RSl t 1 (zd2 a.f.d.limbs) v) (hx : RSl t 1 (zd2 b.f.n.limbs) x) (hy : RSl t 1 (zd2 b.f.d.limbs) y) (hn : a.f.ok) : pvC C19 F 24 [.agg [.int .u8 a.kind, .bool a.f.n.neg, u, .bool a.f.d.neg, v, .int .i64 a.i], .agg [.int .u8 b.kind, .bool b.f.n.neg, x, .bool b.f.d.neg, y, .int .i64 b.i]] t = some (.bool (z23 a b)) := by
 refine zbk.2 (w24 _ _ _ _ _ _ _ _ _ _ _ _ ?_)
 simp only [t24, wpT, q53, z0v hu hv hx hy hn, zaa, zax, zc3]; unfold z23; by_cases h1 : a.kind = b.kind
 ·rw [if_pos (by omega)]
  by_cases h2 : a.i = b.i
  ·rw [if_pos h2]; simp [h1, h2]
  ·rw [if_neg h2]; simp [h2]
 ·rw [if_neg (by omega)]; simp [h1]
theorem zto {f : zem} {u v : zab} (hu : RSl t 1 (zd2 f.n.limbs) u) (hv : RSl t 1 (zd2 f.d.limbs) v) (hf : zem.fit f) : pvC C19 F 106 [.agg [.bool f.n.neg, u, .bool f.d.neg, v]] t = some (.bool (zl5 f)) := by
 obtain ⟨h1, h2, h3⟩ := hf
 unfold zem.ok zf9 at h1; have c1 : pvC C19 F 172 [.agg [.bool f.n.neg, u, .bool f.d.neg, v]] t = some (.bool (!(decide (f.n.limbs.length <= 256) && decide (f.d.limbs.length <= 256)))) := by
  refine zbk.2 (w172 _ _ _ _ ?_)
  simp only [t172, wpT, hu.len, hv.len, zaa, zag, zjl]; have e : iLt 256 (f.d.limbs.length : Int) = !decide (f.d.limbs.length <= 256) := by
   rw [iLt_b, <- decide_not]; congr 1; exact propext ⟨by omega, by omega⟩
  by_cases g1 : f.n.limbs.length <= 256
  ·rw [if_neg (fun h => absurd (zat.1 h) (by omega)), e]
   simp [g1]
  ·rw [if_pos (zat.2 (by omega))]; simp [g1]
 have c2 := zth (neg := f.n.neg) (by omega) hu
 have c3 := zth (neg := f.d.neg) (by omega) hv
 have c4 : pvC C19 F 174 [.agg [.bool f.n.neg, u, .bool f.d.neg, v]] t = some (.bool (z8y f.d)) := by
  refine zbk.2 (w174 _ _ _ _ ?_)
  simp only [t174, wpT, q175, z1q hv, zaa, zax]; (first | exact ⟨rfl, rfl⟩ | exact ⟨rfl, trivial⟩ | trivial)
 refine z3a (w106 _ _ _ _ ?_)
 simp only [t106, wpT, q172, c1, q173, c2, c3, q174, c4, zaa, zax, hv.len, zag, zjl, zc3, zo5]; unfold zl5; by_cases g1 : f.n.limbs.length <= 256
 ·by_cases g2 : f.d.limbs.length <= 256
  ·simp only [g1, g2, decide_true, Bool.true_and, Bool.not_true, yar, if_false]
   cases hn : zii f.n.neg f.n.limbs with
   | false => simp
   | true =>
    cases hd : zii f.d.neg f.d.limbs with
    | false => simp
    | true =>
     simp only [Bool.true_eq_false, if_false, Bool.true_and]
     cases hg : f.d.neg with
     | true => simp
     | false =>
      simp only [yar, if_false, Bool.not_false, Bool.true_and]; by_cases h0 : f.d.limbs = []
      ·rw [if_pos (by rw [h0]; rfl)]; simp [h0]
      ·have : f.d.limbs.length ≠ 0 := fun e => h0 (ybd.1 e)
       rw [if_neg (by omega)]
       simp only [h0, ne_eq, not_false_eq_true, decide_true, Bool.true_and]
       cases ho : z8y f.d with
       | true => simp
       | false =>
        simp only [yar, if_false, Bool.false_or]; rw [q176]; refine w176 _ _ _ _ ?_
        simp only [t176, wpT, q235]; have hn' := hn
        have hd' := hd
        rw [hg] at hd'
        refine gcd_ok (n := f.n) (d := ⟨false, f.d.limbs⟩) hu hv (by omega) (by show f.d.limbs.length < _; omega) h2 h3 hn' hd' fun t' g rv k1 k2 k3 k4 k5 => ?_
        have eG : zrc [(.bool false), .nilslice] (.agg [.bool false, rv]) = some (cellsOf [.bool false, rv]) := zhq (by
         show (true && (zj1 .nilslice rv && true)) = true
         rw [zbi k2]; rfl)
        have hone : zeb zab.one [.bool false, rv] = true := by
         show (bif zab.one (.bool false) then (bif zab.one rv then true else false) else false) = true
         rw [k2.one]; rfl
        simp only [zas, zab.asTup, zac, zbh, yaa, yab, zaa, zag, eG, cellsOf, zde, ze6, hone, if_true]; rw [q175, z1q k2]; simp only [zaa, zax, Bool.not_false, Bool.true_and]
        refine ⟨?_, k1⟩
        congr 1
        rw [decide_eq_decide, <- k5]; constructor
        ·intro e; subst e; rfl
        ·intro e
         exact zzcf (B := 65536) (by decide) k3 (fun x hx => by rw [List.mem_singleton.1 hx]; decide) k4 (fun _ => by simp) (by rw [e]; rfl)
  ·simp [g2]
 ·simp [g1]
theorem zu7 {f : zem} {u v : zab} (hu : RSl t 1 (zd2 f.n.limbs) u) (hv : RSl t 1 (zd2 f.d.limbs) v) (hf : zem.fit f) : pvC C19 F 54 [.agg [.bool f.n.neg, u, .bool f.d.neg, v]] t = some (.bool (zl5 f)) := by
 refine zbk.2 (w54 _ _ _ _ ?_)
 simp only [t54, wpT, q106, zto hu hv hf, zaa, zax, if_true]; exact ⟨trivial, trivial⟩
def zpf (f : zem) : Bool := z24 f ⟨⟨false, []⟩, ⟨false, []⟩⟩
def zan (v : zcg) : Bool :=
 if v.kind = 2 \/ v.kind = 3 then decide (v.i = 0) && zl5 v.f
 else if v.kind = 1 then zpf v.f && (decide (0 <= v.i) && decide (v.i <= 1))
 else if v.kind = 4 then zpf v.f && (decide (0 <= v.i) && decide (v.i < 65536))
 else if v.kind = 5 \/ v.kind = 6 then zpf v.f && (decide (-1048576 <= v.i) && decide (v.i <= 1048576))
 else false
theorem zu6 {a : zcg} {u v : zab} (hu : RSl t 1 (zd2 a.f.n.limbs) u) (hv : RSl t 1 (zd2 a.f.d.limbs) v) (hf : zem.fit a.f) : pvC C19 F 25 [.agg [.int .u8 a.kind, .bool a.f.n.neg, u, .bool a.f.d.neg, v, .int .i64 a.i]] t = some (.bool (zan a)) := by
 have hz : RSl t 1 (zd2 []) .nilslice := ⟨[], .inl ⟨rfl, rfl⟩, zbv.2 rfl⟩
 have c1 : pvC C19 F 53 [.agg [.bool a.f.n.neg, u, .bool a.f.d.neg, v], .agg [.bool false, .nilslice, .bool false, .nilslice]] t = some (.bool (zpf a.f)) := z0v (b := ⟨⟨false, []⟩, ⟨false, []⟩⟩) hu hv hz hz hf.1
 have c2 := zu7 hu hv hf
 refine zbk.2 (w25 _ _ _ _ _ _ ?_)
 simp only [t25, wpT, q53, q54, c1, c2, zaa, zax, zc3, zda, if_true]; unfold zan; by_cases h2 : a.kind = 2
 ·simp [h2]
  by_cases h0 : a.i = 0 <;> simp [h0]
 ·by_cases h3 : a.kind = 3
  ·simp [h3]
   by_cases h0 : a.i = 0 <;> simp [h0]
  ·by_cases h1 : a.kind = 1
   ·simp [h1, z81]
    cases zpf a.f
    ·simp
    ·by_cases h0 : 0 <= a.i <;> simp [h0]
   ·by_cases h4 : a.kind = 4
    ·simp [h4, iLt_b]
     cases zpf a.f
     ·simp
     ·by_cases h0 : 0 <= a.i <;> simp [h0]
    ·by_cases h5 : a.kind = 5
     ·simp [h5, z81]
      cases zpf a.f
      ·simp
      ·by_cases h0 : -1048576 <= a.i <;> simp [h0]
     ·by_cases h6 : a.kind = 6
      ·simp [h6, z81]
       cases zpf a.f
       ·simp
       ·by_cases h0 : -1048576 <= a.i <;> simp [h0]
      ·rw [if_neg (by omega), if_neg (by omega), if_neg (by omega), if_neg (by omega), if_neg (by omega), if_neg (by omega)]
       simp [h1, h2, h3, h4, h5, h6]
end Go.Proofs
namespace Go.Proofs
open Go Go.Am
variable [zcf]
variable {t : Tr zal}
def zzay (a b : Int) : Int := if a < b then -1 else if b < a then 1 else 0
def cmpR (x y : zhs) : Int := if zzay x.a y.a ≠ 0 then zzay x.a y.a else if zzay x.b y.b ≠ 0 then zzay x.b y.b else zzay x.known y.known
theorem zzt {a b : Int} : pvC C19 F 184 [.int .i64 a, .int .i64 b] t = some (.int .i64 (zzay a b)) := by
 have c : ∀ n : Int, pvC C19 F 240 [.int .i64 n] t = some (.bool false) := by
  intro n; refine zbk.2 (w240 _ ?_)
  simp only [t240, wpT]; refine ⟨?_, trivial⟩
  rw [iEq_b]; simp
 refine zbk.2 (w184 _ _ ?_)
 simp only [t184, wpT, q240, c, zaa, zax, zat, yar, if_false]; unfold zzay; by_cases h1 : a < b
 ·rw [if_pos h1, if_pos h1]; (first | exact ⟨rfl, rfl⟩ | exact ⟨rfl, trivial⟩ | trivial)
 ·rw [if_neg h1, if_neg h1]
  by_cases h2 : b < a
  ·rw [if_pos h2, if_pos h2]; (first | exact ⟨rfl, rfl⟩ | exact ⟨rfl, trivial⟩ | trivial)
  ·rw [if_neg h2, if_neg h2]; (first | exact ⟨rfl, rfl⟩ | exact ⟨rfl, trivial⟩ | trivial)
def dI (l : List Int) : List D := l.map fun n => D.int .i64 n
def orI : List Int -> Int
 | [] => 0
 | a :: l => if a ≠ 0 then a else orI l
theorem zzgy {l : List Int} {v : zab} (hv : RSl t 1 (dI l) v) (hn : l.length < 1125899906842624) : ∀ (k i : Nat), i + k = l.length -> jp 183 2 [.int .i64 0, v, .int .i64 (l.length : Int), .int .i64 (i : Int)] t (fun r m => r = .int .i64 (orI (l.drop i)) /\ m = t) := by
 intro k; induction k with
 | zero =>
  intro i hi; refine zzfk _ _ _ _ ?_
  simp only [z6c, wpT, zat]; rw [if_neg (by omega), yau (by omega)]
  (first | exact ⟨rfl, rfl⟩ | exact ⟨rfl, trivial⟩ | trivial)
 | succ k ih =>
  intro i hi; have h1 : i < l.length := by omega
  have hx : (dI l)[i]? = some (.int .i64 l[i]) := by simp [dI, yae h1]
  obtain ⟨b, off, cs, g1, g2, _, _, g5⟩ := zjo.at sl105 (fun _ => rfl) hv hx
  rw [zgk] at g5; subst g5; have g2' : zap C19 3 ⟨0, t⟩ (.ptr b off) = some (.int .i64 l[i]) := g2
  refine zzfk _ _ _ _ ?_
  simp only [z6c, wpT, zat, g1, g2', zaa, zag, zjf]; rw [if_pos (by omega), yam h1]
  unfold orI; by_cases h0 : l[i] = 0
  ·rw [if_neg (by omega), if_neg (by omega), zak (by omega) (by omega)]
   exact ih (i + 1) (by omega)
  ·rw [if_pos h0, if_pos h0]
   (first | exact ⟨rfl, rfl⟩ | exact ⟨rfl, trivial⟩ | trivial)
theorem zzs {x y : zhs} {a b c d : zab} : pvC C19 F 118 [.agg [.int .i64 x.a, .int .i64 x.b, .int .i64 x.known, .bool x.f.n.neg, a, .bool x.f.d.neg, b], .agg [.int .i64 y.a, .int .i64 y.b, .int .i64 y.known, .bool y.f.n.neg, c, .bool y.f.d.neg, d]] t = some (.int .i64 (cmpR x y)) := by
 refine z3a (w118 _ _ _ _ _ _ _ _ _ _ _ _ _ _ ?_)
 simp only [t118, wpT, q184, zzt, zaa, zag, zfa, if_true]; intro b hb hbase; generalize e1 : zzay x.a y.a = c1
 generalize e2 : zzay x.b y.b = c2
 generalize e3 : zzay x.known y.known = c3
 obtain ⟨t1, g1, g2, g3, g4⟩ := zhf (C := C19) (T := 105) (el := 3) (sz := 1) (n := 3) (cl := [[.int .i64 c1], [.int .i64 c2], [.int .i64 c3]]) (ps := [(0, .int .i64 c1), (1, .int .i64 c2), (2, .int .i64 c3)]) ty105 rfl ty3 rfl rfl (by decide) rfl (fun i cs hi => by
  rcases i with _ | _ | _ | i
  ·simp at hi; subst hi; rfl
  ·simp at hi; subst hi; rfl
  ·simp at hi; subst hi; rfl
  ·simp at hi) rfl hb
 rw [g1, zaa]; have hr : RSl t1 1 (dI [c1, c2, c3]) (.slice b 0 3 3) := ⟨_, g2, by simp [dI, zbc, zbv, zgk]⟩
 have c183 : pvC C19 F 183 [.slice b 0 3 3] t1 = some (.int .i64 (orI [c1, c2, c3])) := by
  refine zbk.2 (w183 _ ?_)
  simp only [t183, wpT, hr.len, zaa, zag]; exact zzgy hr (by simp) 3 0 rfl
 rw [q183, c183]; simp only [zaa, zag]; refine ⟨?_, g3⟩
 congr 1
 unfold cmpR; simp only [e1, e2, e3, orI]; split
 ·rfl
 ·split
  ·rfl
  ·split
   ·rfl
   ·omega
def znb (l : List zhs) : Nat -> Bool
 | 0 => true
 | n + 1 => (match l[n + 1]?, l[n]? with | some x, some y => !decide (cmpR x y < 0) | _, _ => true) && znb l n
theorem z0x {l : List zhs} {v : zab} (hv : RSl t 7 (l.map zhs.d) v) {i : Nat} (hi : i < l.length) :
  ∃ b off x y, zaf C19 80 v (.int .i64 (i : Int)) = some (.ptr b off) /\ zap C19 85 ⟨0, t⟩ (.ptr b off) = some (.agg [.int .i64 l[i].a, .int .i64 l[i].b, .int .i64 l[i].known, .bool l[i].f.n.neg, x, .bool l[i].f.d.neg, y]) /\ RSl t 1 (zd2 l[i].f.n.limbs) x /\ RSl t 1 (zd2 l[i].f.d.limbs) y ∧
   zrc [(.int .i64 0), (.int .i64 0), (.int .i64 0), (.bool false), .nilslice, (.bool false), .nilslice] (.agg [.int .i64 l[i].a, .int .i64 l[i].b, .int .i64 l[i].known, .bool l[i].f.n.neg, x, .bool l[i].f.d.neg, y]) = some (cellsOf [.int .i64 l[i].a, .int .i64 l[i].b, .int .i64 l[i].known, .bool l[i].f.n.neg, x, .bool l[i].f.d.neg, y]) := by
 obtain ⟨b, off, cs, g1, g2, _, _, g5⟩ := zjo.at sl80 (by simp) hv (i := i) (d := l[i].d) (by simp [yae hi])
 have hz := zkm g5 (zhs.zs _)
 obtain ⟨x, y, rfl, hx, hy⟩ := z01 g5
 exact ⟨b, off, x, y, g1, g2, hx, hy, hz⟩
theorem zyf {l : List zhs} {v : zab} (hv : RSl t 7 (l.map zhs.d) v) (hn : l.length < 1125899906842624) : ∀ (n : Nat), n < l.length \/ n = 0 -> jp 117 2 [v, .func (.func 118) [] [], .int .i64 (n : Int)] t (fun r m => r = .bool (znb l n) /\ m = t) := by
 intro n; induction n with
 | zero =>
  intro _; refine z8w _ _ _ ?_
  simp only [z0n, wpT, zat]; rw [if_neg (by omega)]
  (first | exact ⟨rfl, rfl⟩ | exact ⟨rfl, trivial⟩ | trivial)
 | succ n ih =>
  intro h; have h1 : n + 1 < l.length := by omega
  have h2 : n < l.length := by omega
  obtain ⟨b, off, x, y, g1, g2, _, _, g5⟩ := z0x hv h1
  obtain ⟨b', off', x', y', k1, k2, _, _, k5⟩ := z0x hv h2
  have e1 : ((n + 1 : Nat) : Int) - 1 = (n : Int) := by omega
  have f : ∀ a b, zn1 (.func (.func 118) [] []) [a, b] = some (118, [a, b]) := fun _ _ => rfl
  refine z8w _ _ _ ?_
  simp only [z0n, wpT, zat]; rw [if_pos (by omega), g1, zaa, g2, zaa, g5, zaa, e1, zak (by omega) (by omega), k1, zaa, k2, zaa, k5, zaa, f, zaa]
  simp only [cellsOf, zix, zde, ze6, yaa, yab]; rw [q118, zzs, zaa, zag, zaa]; unfold znb; rw [yae h1, yae h2]; by_cases h0 : cmpR l[n + 1] l[n] < 0
  ·refine zbf h0 ?_
   simp [h0]
  ·refine zb5 h0 ?_
   simp only [h0, decide_false, Bool.not_false, Bool.true_and]; exact ih (.inl h2)
theorem z6l {l : List zhs} {v : zab} (hv : RSl t 7 (l.map zhs.d) v) (hn : l.length < 1125899906842624) : pvC C19 F 117 [v, .func (.func 118) [] []] t = some (.bool (znb l (l.length - 1))) := by
 refine zbk.2 (w117 _ _ ?_)
 simp only [t117, wpT, hv.len, zaa, zag, yag]; rw [zak (by omega) (by omega)]
 by_cases h0 : l.length = 0
 ·refine z8w _ _ _ ?_
  simp only [z0n, wpT, zat]; rw [if_neg (by omega), h0]
  (first | exact ⟨rfl, rfl⟩ | exact ⟨rfl, trivial⟩ | trivial)
 ·have := zyf hv hn (l.length - 1) (by omega)
  rw [show ((l.length - 1 : Nat) : Int) = (l.length : Int) - 1 by omega] at this
  exact this
def in32 (n : Int) : Bool := decide (-2147483648 <= n) && decide (n <= 2147483647)
def zjr (two : Bool) (r : zhs) : Bool := in32 r.a && in32 r.b && (two || decide (r.b = 0)) && decide (0 <= r.known) && decide (r.known < 65536) && zl5 r.f
theorem z6t {two : Bool} {r : zhs} {x y : zab} (hx : RSl t 1 (zd2 r.f.n.limbs) x) (hy : RSl t 1 (zd2 r.f.d.limbs) y) (hf : zem.fit r.f) :
  jp 121 2 [.bool two, .agg [.int .i64 r.a, .int .i64 r.b], .int .i64 2, .int .i64 r.a, .int .i64 r.b, .int .i64 r.known, .bool r.f.n.neg, x, .bool r.f.d.neg, y] t (fun v m => v = .bool ((two || decide (r.b = 0)) && decide (0 <= r.known) && decide (r.known < 65536) && zl5 r.f) /\ m = t) := by
 refine z8v _ _ _ _ _ _ _ _ _ _ _ ?_
 simp only [z0m, wpT, zat, zda, zc3, q54, zu7 hx hy hf, zaa, zax]; rw [if_neg (by omega)]
 cases two with
 | true =>
  simp only [if_true, Bool.true_or, Bool.true_and]; by_cases h1 : 0 <= r.known
  ·rw [if_pos h1]
   by_cases h2 : r.known < 65536
   ·rw [if_pos h2]; simp [h1, h2]
   ·rw [if_neg h2]; simp [h2]
  ·rw [if_neg h1]; simp [h1]
 | false =>
  simp only [yar, if_false, Bool.false_or]; by_cases h0 : r.b = 0
  ·rw [if_pos h0]
   by_cases h1 : 0 <= r.known
   ·rw [if_pos h1]
    by_cases h2 : r.known < 65536
    ·rw [if_pos h2]; simp [h0, h1, h2]
    ·rw [if_neg h2]; simp [h2]
   ·rw [if_neg h1]; simp [h1]
  ·rw [if_neg h0]; simp [h0]
theorem zzbx {two : Bool} {r : zhs} {x y : zab} (hx : RSl t 1 (zd2 r.f.n.limbs) x) (hy : RSl t 1 (zd2 r.f.d.limbs) y) (hf : zem.fit r.f) :
  pvC C19 F 121 [.bool two, .agg [.int .i64 r.a, .int .i64 r.b, .int .i64 r.known, .bool r.f.n.neg, x, .bool r.f.d.neg, y]] t = some (.bool (zjr two r)) := by
 have i0 : zjq C19 236 (.agg [.int .i64 r.a, .int .i64 r.b]) (.int .i64 0) = some (.int .i64 r.a) := by kernel_rfl
 have i1 : zjq C19 236 (.agg [.int .i64 r.a, .int .i64 r.b]) (.int .i64 1) = some (.int .i64 r.b) := by kernel_rfl
 have e := z6t (two := two) hx hy hf
 have w1 : zah .i64 (0 + 1) = 1 := by kernel_rfl
 have w2 : zah .i64 (1 + 1) = 2 := by kernel_rfl
 refine zbk.2 (w121 _ _ _ _ _ _ _ _ ?_)
 simp only [t121, wpT, if_true]; refine z8v _ _ _ _ _ _ _ _ _ _ _ ?_
 simp only [z0m, wpT, zat]; rw [if_pos (by omega), i0, zaa, zag, zaa]
 unfold zjr in32; by_cases h1 : r.a < -2147483648
 ·rw [if_pos h1]
  have : ¬ (-2147483648 <= r.a) := by omega
  simp [this]
 ·rw [if_neg h1]
  have g1 : -2147483648 <= r.a := by omega
  by_cases h2 : 2147483647 < r.a
  ·rw [if_pos h2]
   have : ¬ (r.a <= 2147483647) := by omega
   simp [this]
  ·rw [if_neg h2, w1]
   have g2 : r.a <= 2147483647 := by omega
   refine z8v _ _ _ _ _ _ _ _ _ _ _ ?_
   simp only [z0m, wpT, zat]; rw [if_pos (by omega), i1, zaa, zag, zaa]
   by_cases h3 : r.b < -2147483648
   ·rw [if_pos h3]
    have : ¬ (-2147483648 <= r.b) := by omega
    simp [this]
   ·rw [if_neg h3]
    have g3 : -2147483648 <= r.b := by omega
    by_cases h4 : 2147483647 < r.b
    ·rw [if_pos h4]
     have : ¬ (r.b <= 2147483647) := by omega
     simp [this]
    ·rw [if_neg h4, w2]
     have g4 : r.b <= 2147483647 := by omega
     simp only [g1, g2, g3, g4, decide_true, Bool.and_self, Bool.true_and]; exact e
theorem zzin {cs : List zab} {b : Nat} (hb : t.get b = none) : ∃ t', z44 (.agg cs) ⟨b, t⟩ = some (.ptr b 0, ⟨b + 1, t'⟩) /\ At t' b 0 cs /\ TLe t t' /\ Off b t t' := by
 refine ⟨t.set b (.cells (Tr.ofList cs) (zbw cs) none), rfl, ⟨Tr.ofList cs, zbw cs, none, by rw [Tr.get_set, if_pos rfl], fun j a hj => by rw [yax, Tr.get_ofList]; exact hj⟩, (zdb hb _).1, (zdb hb _).2⟩
def idxR (two : Bool) : List zhs -> Int -> Int
 | [], _ => -1
 | r :: l, i => if zjr two r = true then idxR two l (i + 1) else i
theorem z1t {two : Bool} : ∀ (l : List zhs) (i : Int), 0 <= i -> decide (0 <= idxR two l i) = l.any fun r => !zjr two r
 | [], i, _ => rfl
 | r :: l, i, h => by
  unfold idxR; rw [List.any_cons]
  cases hq : zjr two r with
  | false => simpa using h
  | true =>
   rw [if_pos rfl, Bool.not_true, Bool.false_or]; exact z1t l (i + 1) (by omega)
theorem z3r {l : List zhs} {v w : zab} {two : Bool} (hv : RSl t 7 (l.map zhs.d) v) (hn : l.length < 1125899906842624) (hf : ∀ r ∈ l, zem.fit r.f) (hw : ∀ r ∈ l, ∀ x y, RSl t 1 (zd2 r.f.n.limbs) x -> RSl t 1 (zd2 r.f.d.limbs) y -> pvC C19 F 120 [.agg [.int .i64 r.a, .int .i64 r.b, .int .i64 r.known, .bool r.f.n.neg, x, .bool r.f.d.neg, y], w] t = some (.bool (!zjr two r))) :
  ∀ (k i : Nat), i + k = l.length -> jp 185 2 [v, .func (.func 120) [] [w], .int .i64 (l.length : Int), .int .i64 (i : Int)] t (fun r m => r = .int .i64 (idxR two (l.drop i) i) /\ m = t) := by
 intro k; induction k with
 | zero =>
  intro i hi; refine zzfj _ _ _ _ ?_
  simp only [z6b, wpT, zat]; rw [if_neg (by omega), yau (by omega)]
  (first | exact ⟨rfl, rfl⟩ | exact ⟨rfl, trivial⟩ | trivial)
 | succ k ih =>
  intro i hi; have h1 : i < l.length := by omega
  obtain ⟨b, off, x, y, g1, g2, gx, gy, g5⟩ := z0x hv h1
  have f : ∀ a, zn1 (.func (.func 120) [] [w]) [a] = some (120, [a, w]) := fun _ => rfl
  refine zzfj _ _ _ _ ?_
  simp only [z6b, wpT, zat]; rw [if_pos (by omega), g1, zaa, g2, zaa, g5, zaa, f, zaa]
  simp only [cellsOf, zix, zde, ze6, yaa, yab]; rw [q120, hw _ (List.getElem_mem h1) x y gx gy, zaa, zax, zaa, yam h1]
  unfold idxR
  cases hq : zjr two l[i] with
  | false =>
   simp only [Bool.not_false, if_true, yar, if_false]; (first | exact ⟨rfl, trivial⟩ | exact ⟨trivial, trivial⟩ | trivial)
  | true =>
   simp only [Bool.not_true, yar, if_false, if_true]; rw [zak (by omega) (by omega)]
   exact ih (i + 1) (by omega)
def zld (x : zb9) : Bool := decide (1 <= x.name.length) && decide (x.name.length <= 24) && decide (x.rows.length <= 400) && znb x.rows (x.rows.length - 1) && !(x.rows.any fun r => !zjr x.two r)
theorem z4y {x : zb9} {v : zab} (hv : RSl t 7 (x.rows.map zhs.d) v) (hn : x.rows.length < zf9) (hs : x.name.length < zf9) (hf : ∀ r ∈ x.rows, zem.fit r.f) : pvC C19 F 64 [.agg [.str x.name, .bool x.two, v]] t = some (.bool (zld x)) := by
 unfold zf9 at hn hs; refine z3a (w64 _ _ _ ?_)
 simp only [t64, wpT]; intro b hb hbase; obtain ⟨t1, g1, g2, g3, g4⟩ := zzin (cs := [.str x.name, .bool x.two, v]) hb
 have f0 : zaj C19 82 0 (.ptr b 0) = some (.ptr b (0 + 0)) := by kernel_rfl
 have f1 : zaj C19 82 1 (.ptr b 0) = some (.ptr b (0 + 1)) := by kernel_rfl
 have f2 : zaj C19 82 2 (.ptr b 0) = some (.ptr b (0 + 2)) := by kernel_rfl
 have l0 : zap C19 9 ⟨0, t1⟩ (.ptr b (0 + 0)) = some (.str x.name) := g2.load1 ty9 rfl rfl
 have l1 : zap C19 4 ⟨0, t1⟩ (.ptr b (0 + 1)) = some (.bool x.two) := g2.load1 ty4 rfl rfl
 have l2 : zap C19 80 ⟨0, t1⟩ (.ptr b (0 + 2)) = some v := g2.load1 ty80 rfl rfl
 have hv1 := hv.mono g3
 rw [g1, zaa, f0, zaa, l0, zaa, zca, zaa, zf5, f2]; simp only [zaa, l0, l2, zca, zf5, hv1.len, zag, yag, zat, q117, z6l hv1 (by omega), zax, q119]
 have c120 : ∀ r ∈ x.rows, ∀ y z, RSl t1 1 (zd2 r.f.n.limbs) y -> RSl t1 1 (zd2 r.f.d.limbs) z -> pvC C19 F 120 [.agg [.int .i64 r.a, .int .i64 r.b, .int .i64 r.known, .bool r.f.n.neg, y, .bool r.f.d.neg, z], .ptr b 0] t1 = some (.bool (!zjr x.two r)) := by
  intro r hr y z hy hz; refine zbk.2 (w120 _ _ _ _ _ _ _ _ ?_)
  simp only [t120, wpT]; rw [f1, zaa, l1, zaa, zax, zaa, q121, zzbx hy hz (hf r hr), zaa, zax, zaa]
  (first | exact ⟨rfl, rfl⟩ | exact ⟨rfl, trivial⟩ | trivial)
 have c119 : pvC C19 F 119 [v, .func (.func 120) [] [.ptr b 0]] t1 = some (.bool (x.rows.any fun r => !zjr x.two r)) := by
  refine zbk.2 (w119 _ _ ?_)
  simp only [t119, wpT]; have c185 : pvC C19 F 185 [v, .func (.func 120) [] [.ptr b 0]] t1 = some (.int .i64 (idxR x.two x.rows 0)) := by
   refine zbk.2 (w185 _ _ ?_)
   simp only [t185, wpT, hv1.len, zaa, zag, yag]; have := z3r hv1 (by omega) hf c120 x.rows.length 0 (by omega)
   rw [List.drop_zero] at this; exact this
  rw [q185, c185, zaa, zag, zaa, z81, z1t _ _ (by omega)]
  (first | exact ⟨rfl, rfl⟩ | exact ⟨rfl, trivial⟩ | trivial)
 unfold zld; by_cases h1 : (x.name.length : Int) < 1
 ·rw [if_pos h1]
  have : ¬ (1 <= x.name.length) := by omega
  exact ⟨by simp [this], g3⟩
 ·rw [if_neg h1]
  have h1' : 1 <= x.name.length := by omega
  by_cases h2 : 24 < (x.name.length : Int)
  ·rw [if_pos h2]
   have : ¬ (x.name.length <= 24) := by omega
   exact ⟨by simp [this], g3⟩
  ·rw [if_neg h2]
   have h2' : x.name.length <= 24 := by omega
   by_cases h3 : 400 < (x.rows.length : Int)
   ·rw [if_pos h3]
    have : ¬ (x.rows.length <= 400) := by omega
    exact ⟨by simp [this], g3⟩
   ·rw [if_neg h3]
    have h3' : x.rows.length <= 400 := by omega
    simp only [h1', h2', h3', decide_true, Bool.true_and]
    cases hs : znb x.rows (x.rows.length - 1) with
    | false => exact ⟨by simp, g3⟩
    | true =>
     rw [c119]; simp only [if_true, zaa, zax, Bool.true_and]; exact ⟨by trivial, g3⟩
end Go.Proofs
namespace Go.Am
open Go Go.RowKit
def Cel (t : Tr zal) (b : Nat) (lo : Option Nat) (cs : List zab) : Prop := ∃ c, t.get b = some (.cells c cs.length lo) /\ ∀ (j : Nat) a, cs[j]? = some a -> c.get j = some a
def zic (cs : List zab) (j : Nat) (l : List zab) : List zab := cs.take j ++ (l ++ cs.drop (j + l.length))
theorem zmi {cs l : List zab} {j : Nat} (h : j + l.length <= cs.length) : (zic cs j l).length = cs.length := by
 unfold zic; simp; omega
theorem zka {cs l : List zab} {j : Nat} (h : j + l.length <= cs.length) (k : Nat) : (zic cs j l)[k]? = if j <= k /\ k < j + l.length then l[k - j]? else cs[k]? := by
 have ht : (cs.take j).length = j := by simp; omega
 unfold zic; rw [List.getElem?_append, ht]; split
 ·rename_i h1
  rw [if_neg (by omega), List.getElem?_take, if_pos h1]
 ·rename_i h1
  rw [List.getElem?_append]; split
  ·rw [if_pos (by omega)]
  ·rw [if_neg (by omega), List.getElem?_drop]; congr 1; omega
section
variable {t tf : Tr zal} {C : Ctx} {b : Nat} {lo : Option Nat} {cs : List zab}
theorem Cel.at (h : Cel t b lo cs) : At t b 0 cs := by
 obtain ⟨c, h1, h2⟩ := h
 exact ⟨c, _, _, h1, fun j a hj => by rw [yax]; exact h2 j a hj⟩
theorem Cel.off (h : Cel t b lo cs) {t' : Tr zal} (k : t'.get b = t.get b) : Cel t' b lo cs := by
 obtain ⟨c, h1, h2⟩ := h
 exact ⟨c, by rw [k]; exact h1, h2⟩
theorem Cel.load1 (h : Cel t b lo cs) {j : Nat} {a : zab} {ty : Nat} {y : ATy} (hy : C.tys.get ty = some y) (ha : y.desc.isAgg = false) (hj : cs[j]? = some a) : zap C ty ⟨0, t⟩ (.ptr b j) = some a := by
 have := h.at.load1 hy ha hj
 rw [yax] at this; exact this
theorem Cel.store (h : Cel t b lo cs) (hb : C.base <= b) {j T : Nat} {y : ATy} {v : zab} (hT : C.tys.get T = some y) (hl : v.cells.length = y.size) (hj : j + v.cells.length <= cs.length) (hone : zeb zab.one v.cells = true) :
  ∃ t', (∀ n, zb3 C T (.ptr b j) v ⟨n, t⟩ = some (zbr, ⟨n, t'⟩)) /\ Cel t' b lo (zic cs j v.cells) /\ Off b t t' := by
 obtain ⟨c, h1, h2⟩ := h
 refine ⟨t.set b (.cells (c.setMany v.cells j) cs.length lo), fun n => ?_, ⟨c.setMany v.cells j, ?_, fun k a hk => ?_⟩, fun d hd => by rw [Tr.get_set, if_neg hd]⟩
 ·unfold zb3
  rw [hT, zac]; simp only [zab.asPtr, zac]; have e1 : Nat.beq (zbw v.cells) y.size = true := by rw [zbb, hl]; exact zc0.2 rfl
  rw [e1, zaz]; unfold zhx za1; have e2 : (!Nat.blt b C.base) = true := by
   cases hq : Nat.blt b C.base with
   | true => have := zdl.1 hq; omega
   | false => rfl
  rw [e2, zaz, h1, zac]; simp only [zal.asCells, zac]; have e3 : Nat.ble (j + zbw v.cells) cs.length = true := by rw [zbb]; exact zj2.2 hj
  rw [e3, hone]; rfl
 ·rw [Tr.get_set, if_pos rfl, zmi hj]
 ·rw [zka hj] at hk
  rw [Tr.get_setMany]; split
  ·rename_i e; rw [if_pos e] at hk; exact hk
  ·rename_i e; rw [if_neg e] at hk; exact h2 k a hk
theorem Cel.store1 (h : Cel t b lo cs) (hb : C.base <= b) {j T : Nat} {y : ATy} {v : zab} (hT : C.tys.get T = some y) (hs : y.size = 1) (hv : v.cells = [v]) (hone : zab.one v = true) (hj : j < cs.length) :
  ∃ t', (∀ n, zb3 C T (.ptr b j) v ⟨n, t⟩ = some (zbr, ⟨n, t'⟩)) /\ Cel t' b lo (cs.set j v) /\ Off b t t' := by
 obtain ⟨t', h1, h2, h3⟩ := h.store hb hT (v := v) (j := j) (by rw [hv, hs]; rfl) (by rw [hv]; exact hj) (by rw [hv]; show (bif zab.one v then true else false) = true; rw [hone]; rfl)
 refine ⟨t', h1, ?_, h3⟩
 have e : zic cs j v.cells = cs.set j v := by
  rw [hv]; apply List.ext_getElem?
  intro k; rw [zka (by exact hj), List.getElem?_set]
  by_cases e : j = k
  ·subst e; rw [if_pos (by simp), if_pos rfl, if_pos hj]; simp
  ·rw [if_neg (by simp; omega), if_neg e]
 rw [e] at h2; exact h2
theorem zqh {b : Nat} (hb : t.get b = none) (cs : List zab) (lo : Option Nat) : ∃ t', za7 ⟨b, t⟩ cs lo = ⟨b + 1, t'⟩ /\ Cel t' b lo cs /\ TLe t t' /\ Off b t t' :=
 ⟨t.set b (.cells (Tr.ofList cs) (zbw cs) lo), rfl, ⟨Tr.ofList cs, by rw [Tr.get_set, if_pos rfl, zbb], fun j a hj => by rw [Tr.get_ofList]; exact hj⟩, (zdb hb _).1, (zdb hb _).2⟩
theorem zrb {b T : Nat} {y : ATy} (hT : C.tys.get T = some y) (hb : t.get b = none) : ∃ t', zl7 C T ⟨b, t⟩ = some (.ptr b 0, ⟨b + 1, t'⟩) /\ Cel t' b none y.zero /\ TLe t t' /\ Off b t t' := by
 obtain ⟨t', h1, h2, h3, h4⟩ := zqh hb y.zero none
 refine ⟨t', ?_, h2, h3, h4⟩
 unfold zl7; rw [hT, zac, <- h1]
theorem z97 {b : Nat} {v : zab} (hb : t.get b = none) : ∃ t', z44 v ⟨b, t⟩ = some (.ptr b 0, ⟨b + 1, t'⟩) /\ Cel t' b none v.cells /\ TLe t t' /\ Off b t t' := by
 obtain ⟨t', h1, h2, h3, h4⟩ := zqh hb v.cells none
 exact ⟨t', by unfold z44; rw [<- h1], h2, h3, h4⟩
def OwnD (base : Nat) (tf t : Tr zal) (sz : Nat) (l : List D) (b : Nat) (lo : Option Nat) : Prop :=
 base <= b /\ tf.get b = none /\ ∃ cl, Cel t b lo cl.flatten /\ (∀ (i : Nat) cs, cl[i]? = some cs -> cs.length = sz) /\ RDs tf l cl
theorem OwnD.read {base sz n : Nat} {l : List D} (h : OwnD base tf t sz l b lo) (hlo : lo = none \/ lo = some sz) (ht : TLe tf t) (hn : l.length = n) {cap : Nat} (hc : n <= cap) : RSl t sz l (.slice b 0 n cap) := by
 obtain ⟨_, _, cl, ⟨c, h1, h2⟩, h3, h4⟩ := h
 have hlen := h4.length
 refine ⟨cl, .inr ⟨b, 0, cap, by rw [hlen, hn], by omega, ⟨c, _, _, h1, hlo⟩, fun i cs hi => ⟨h3 i cs hi, c, _, _, h1, fun j a hj => ?_⟩⟩, RDs.mono ht _ _ h4⟩
 rw [yax]; exact h2 _ _ (zf1 h3 i j cs a hi hj)
theorem zzc8 {sz : Nat} : ∀ {cl : List (List zab)}, (∀ (i : Nat) cs, cl[i]? = some cs -> cs.length = sz) -> ∀ {i o : Nat} {cs l : List zab}, cl[i]? = some cs -> o + l.length <= sz -> zic cl.flatten (i * sz + o) l = (cl.set i (zic cs o l)).flatten := by
 intro cl h i o cs l hi ho; have hlt : i < cl.length := (yad.1 hi).1
 have hcs := h i cs hi
 have hfl := zf0 h
 have hb : i * sz + sz <= cl.length * sz := by
  have := yaj sz (show i + 1 <= cl.length by omega)
  rw [yap] at this; omega
 have hov : (zic cs o l).length = sz := by rw [zmi (by omega)]; exact hcs
 have h' : ∀ (k : Nat) c, (cl.set i (zic cs o l))[k]? = some c -> c.length = sz := by
  intro k c hk; rw [List.getElem?_set] at hk; split at hk
  ·cases hk; exact hov
  ·exact h k c hk
 have hfl' := zf0 h'
 rw [List.length_set] at hfl'
 have hsz : ∀ k, k < cl.length * sz -> k / sz < cl.length /\ k % sz < sz := by
  intro k hk; have hpos : 0 < sz := by
   rcases Nat.eq_zero_or_pos sz with e | e
   ·subst e; simp at hk
   ·exact e
  exact ⟨Nat.div_lt_of_lt_mul (by rw [yai]; exact hk), Nat.mod_lt _ hpos⟩
 apply List.ext_getElem?
 intro k; rw [zka (by rw [hfl]; omega)]
 by_cases hk : k < cl.length * sz
 ·obtain ⟨k1, k2⟩ := hsz k hk
  have hdm := ybi k sz
  have hkk : k = k / sz * sz + k % sz := by rw [yai]; exact hdm.symm
  have hq : cl[k / sz]? = some cl[k / sz] := yae k1
  have hql := h _ _ hq
  have e1 : cl.flatten[k]? = cl[k / sz][k % sz]? := by
   have hx : cl[k / sz][k % sz]? = some cl[k / sz][k % sz] := yae (by omega)
   rw [hx]; conv => lhs; rw [hkk]
   exact zf1 h _ _ _ _ hq hx
  have e2 : ∀ c, (cl.set i (zic cs o l))[k / sz]? = some c -> (cl.set i (zic cs o l)).flatten[k]? = c[k % sz]? := by
   intro c hc; have hcl := h' _ _ hc
   have hx : c[k % sz]? = some c[k % sz] := yae (by omega)
   rw [hx]; conv => lhs; rw [hkk]
   exact zf1 h' _ _ _ _ hc hx
  by_cases hi2 : k / sz = i
  ·have hc : (cl.set i (zic cs o l))[k / sz]? = some (zic cs o l) := by rw [hi2, List.getElem?_set, if_pos rfl, if_pos hlt]
   rw [e2 _ hc, zka (by omega)]
   rw [hi2] at hkk; have hcs2 : cl[k / sz] = cs := by
    have : cl[k / sz]? = some cs := by rw [hi2]; exact hi
    rw [hq] at this; exact Option.some.inj this
   by_cases hin : o <= k % sz /\ k % sz < o + l.length
   ·rw [if_pos (by omega), if_pos hin]; congr 1; omega
   ·rw [if_neg (by omega), if_neg hin, e1, hcs2]
  ·have hc : (cl.set i (zic cs o l))[k / sz]? = some cl[k / sz] := by rw [List.getElem?_set, if_neg (fun e => hi2 e.symm)]; exact hq
   rw [e2 _ hc, e1, if_neg]; intro ⟨a1, a2⟩
   apply hi2
   have hpos : 0 < sz := by omega
   exact Nat.div_eq_of_lt_le (by omega) (by rw [yap]; omega)
 ·rw [if_neg (by omega), List.getElem?_eq_none (by rw [hfl]; omega), List.getElem?_eq_none (by rw [hfl']; omega)]
theorem RDs.set : ∀ {l : List D} {cl : List (List zab)} {i : Nat} {d : D} {cs : List zab}, RDs tf l cl -> RD tf d cs -> RDs tf (l.set i d) (cl.set i cs) := by
 intro l; induction l with
 | nil => intro cl i d cs h _; rw [zbv] at h; subst h; exact zbv.2 rfl
 | cons e l ih =>
  intro cl i d cs h k; rw [zbc] at h; obtain ⟨c, r, rfl, h1, h2⟩ := h
  cases i with
  | zero => exact zbc.2 ⟨cs, r, rfl, k, h2⟩
  | succ i => exact zbc.2 ⟨c, r.set i cs, rfl, h1, ih h2 k⟩
theorem OwnD.grow {base sz : Nat} {l : List D} (h : OwnD base tf t sz l b lo) {tf' t' : Tr zal} (hf : TLe tf tf') (hb : tf'.get b = none) (ht : t'.get b = t.get b) : OwnD base tf' t' sz l b lo := by
 obtain ⟨h1, h2, cl, h3, h4, h5⟩ := h
 exact ⟨h1, hb, cl, h3.off ht, h4, RDs.mono hf _ _ h5⟩
theorem OwnD.cells {base sz : Nat} {l : List D} (h : OwnD base tf t sz l b lo) {i : Nat} {d : D} (hi : l[i]? = some d) : ∃ cs, cs.length = sz /\ RD tf d cs /\ At t b (i * sz) cs := by
 obtain ⟨h1, h2, cl, ⟨c, h3, h4⟩, h5, h6⟩ := h
 obtain ⟨cs, k1, k2⟩ := h6.get hi
 exact ⟨cs, h5 i cs k1, k2, c, _, _, h3, fun j a hj => h4 _ _ (zf1 h5 i j cs a k1 hj)⟩
theorem OwnD.store {sz : Nat} {l : List D} (h : OwnD C.base tf t sz l b lo) {i o T : Nat} {d d' : D} {y : ATy} {v : zab} (hi : l[i]? = some d) (hT : C.tys.get T = some y) (hl : v.cells.length = y.size) (ho : o + v.cells.length <= sz) (hone : zeb zab.one v.cells = true)
  (hd : ∀ cs, cs.length = sz -> RD tf d cs -> RD tf d' (zic cs o v.cells)) :
  ∃ t', (∀ n, zb3 C T (.ptr b (i * sz + o)) v ⟨n, t⟩ = some (zbr, ⟨n, t'⟩)) /\ OwnD C.base tf t' sz (l.set i d') b lo /\ Off b t t' := by
 obtain ⟨h1, h2, cl, h3, h5, h6⟩ := h
 obtain ⟨cs, k1, k2⟩ := h6.get hi
 have hlt : i < cl.length := (yad.1 k1).1
 have hfl := zf0 h5
 have hb : i * sz + sz <= cl.length * sz := by
  have := yaj sz (show i + 1 <= cl.length by omega)
  rw [yap] at this; omega
 obtain ⟨t', g1, g2, g3⟩ := h3.store h1 hT hl (j := i * sz + o) (by rw [hfl]; omega) hone
 rw [zzc8 h5 k1 ho] at g2; refine ⟨t', g1, ⟨h1, h2, _, g2, fun k c hk => ?_, h6.set (hd cs (h5 i cs k1) k2)⟩, g3⟩
 rw [List.getElem?_set] at hk; split at hk
 ·cases hk
  rw [zmi (by rw [h5 i cs k1]; exact ho)]
  exact h5 i cs k1
 ·exact h5 k c hk
end
end Go.Am
