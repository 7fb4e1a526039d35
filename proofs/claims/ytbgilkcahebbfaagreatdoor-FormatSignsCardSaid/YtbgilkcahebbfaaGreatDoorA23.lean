/- Lehmer's steps: what the simulation keeps. -/
import Derived.Carry
import Derived.ChangeArms
import Derived.HandedShaped
import Derived.JoinedOf
import Derived.LaidMore
import Derived.OpenShut
import Derived.ProofKit
import Derived.Stop.Joined
import Derived.Test.YtbgilkcahebbfaaGreatDoorRows
import GoSem.ClaimJoined
import Derived.Test.YtbgilkcahebbfaaGreatDoorA22
set_option linter.all false
noncomputable section
namespace Go.Am
def Lrel (a b x y u1 u2 v1 v2 : Nat) (ev : Bool) : Prop :=
 match ev with
 | false => u1 * v2 = u2 * v1 + 1 /\ x + v1 * b = u1 * a /\ y + u2 * a = v2 * b
 | true => u2 * v1 = u1 * v2 + 1 /\ x + u1 * a = v1 * b /\ y + v2 * b = u2 * a
def Lst (u1 u2 v1 v2 : Nat) : Prop := (u1 = 1 /\ v1 = 0 /\ u2 = 0) \/ (u1 <= v1 /\ u2 <= v2 /\ 1 <= u2 /\ 1 <= v1)
def zzc9 (a b u0 u1 v0 v1 : Nat) (ev : Bool) : Prop := ∃ x y, Lrel a b x y u0 u1 v0 v1 (!ev) /\ v1 <= y /\ v0 + v1 <= x - y /\ u0 <= v0 /\ u1 <= v1 /\ 1 <= u1 /\ 1 <= v0 /\ v0 <= v1
def Lsim (a b x y u0 u1 u2 v0 v1 v2 : Nat) (ev : Bool) : Prop := Lrel a b x y u1 u2 v1 v2 ev /\ 1 <= v2 /\ v1 <= v2 /\ Lst u1 u2 v1 v2 /\ (v0 = 0 \/ zzc9 a b u0 u1 v0 v1 ev)
theorem z9w (a b : Nat) : Lsim a b a b 0 1 0 0 0 1 false := ⟨⟨by simp, by simp, by simp⟩, yal _, by omega, .inl ⟨rfl, rfl, rfl⟩, .inl rfl⟩
theorem z9v {a b x y u0 u1 u2 v0 v1 v2 : Nat} {ev : Bool} (h : Lsim a b x y u0 u1 u2 v0 v1 v2 ev) (hy : 0 < y) (h1 : v2 <= y) (h2 : v1 + v2 <= x - y) :
  Lsim a b y (x % y) u1 u2 (u1 + x / y * u2) v1 v2 (v1 + x / y * v2) (!ev) := by
 obtain ⟨k1, k2, k5, k3, k4⟩ := h
 have hq : 1 <= x / y := by rw [Nat.le_div_iff_mul_le hy]; omega
 have hdm := ybi x y
 generalize x / y = q at *
 generalize x % y = r at *
 have hv2 : v2 <= q * v2 := Nat.le_mul_of_pos_left _ hq
 have hu2 : u2 <= q * u2 := Nat.le_mul_of_pos_left _ hq
 refine ⟨?_, by omega, by omega, ?_, ?_⟩
 ·cases ev with
  | false =>
   obtain ⟨m1, m2, m3⟩ := k1
   refine ⟨?_, m3, ?_⟩
   ·rw [yap, yan, m1]
    have : q * u2 * v2 = u2 * (q * v2) := by rw [yai q u2, yak]
    omega
   ·-- r + (v1 + q v2) b = (u1 + q u2) a
    show r + (v1 + q * v2) * b = (u1 + q * u2) * a
    have e : q * (y + u2 * a) = q * (v2 * b) := by rw [m3]
    rw [yan, <- yak, <- yak, yai q y] at e; rw [yap, yap]; omega
  | true =>
   obtain ⟨m1, m2, m3⟩ := k1
   refine ⟨?_, m3, ?_⟩
   ·show u2 * (v1 + q * v2) = (u1 + q * u2) * v2 + 1
    rw [yap, yan, m1]; have : q * u2 * v2 = u2 * (q * v2) := by rw [yai q u2, yak]
    omega
   ·show r + (u1 + q * u2) * a = (v1 + q * v2) * b
    have e : q * (y + v2 * b) = q * (u2 * a) := by rw [m3]
    rw [yan, <- yak, <- yak, yai q y] at e; rw [yap, yap]; omega
 ·right
  rcases k3 with ⟨e1, e2, e3⟩ | ⟨g1, g2, g3, g4⟩
  ·subst e1 e2 e3
   refine ⟨by omega, ?_, by omega, by omega⟩
   simp only [Nat.mul_zero, yax, ybu]; omega
  ·have := yaw q g2
   exact ⟨g2, by omega, by omega, by omega⟩
 ·rcases k3 with ⟨e1, e2, e3⟩ | ⟨g1, g2, g3, g4⟩
  ·exact .inl e2
  ·right
   exact ⟨x, y, by rw [Bool.not_not]; exact k1, h1, h2, g1, g2, g3, g4, k5⟩
end Go.Am
namespace Go.Am
theorem zjq {p q r s A B X Y : Nat} (hdet : p * s = q * r + 1) (hX : X + r * B = p * A) (hY : Y + q * A = s * B) : A = s * X + r * Y /\ B = q * X + p * Y := by
 have a1 : s * (X + r * B) = s * (p * A) := by rw [hX]
 have a2 : r * (Y + q * A) = r * (s * B) := by rw [hY]
 have a3 : q * (X + r * B) = q * (p * A) := by rw [hX]
 have a4 : p * (Y + q * A) = p * (s * B) := by rw [hY]
 have d1 : p * s * A = q * r * A + A := by rw [hdet, yap, Nat.one_mul]
 have d2 : p * s * B = q * r * B + B := by rw [hdet, yap, Nat.one_mul]
 have e1 : s * (p * A) = p * s * A := by rw [<- yak, yai s p]
 have e2 : r * (q * A) = q * r * A := by rw [<- yak, yai r q]
 have e3 : s * (r * B) = r * (s * B) := Nat.mul_left_comm _ _ _
 have e4 : q * (p * A) = p * (q * A) := Nat.mul_left_comm _ _ _
 have e5 : q * (r * B) = q * r * B := (yak _ _ _).symm
 have e6 : p * (s * B) = p * s * B := (yak _ _ _).symm
 rw [yan] at a1 a2 a3 a4; constructor <;> omega
theorem zwa {p q r s a b A B W α β x y : Nat} (hx : x + r * b = p * a) (hy : y + q * a = s * b) (hA : A = W * a + α) (hB : B = W * b + β) (ha : α < W) (hb : β < W) (hrs : r + s <= x - y) (h1 : 1 <= r + s) (hq : q <= y) :
  ∃ X Y, X + r * B = p * A /\ Y + q * A = s * B /\ Y < X := by
 obtain ⟨D, hD⟩ : ∃ D, x = y + D := ⟨x - y, by omega⟩
 have w1 : p * A = W * x + r * (W * b) + p * α := by
  rw [hA, yan, Nat.mul_left_comm p W, <- hx, yan, Nat.mul_left_comm W r]
 have w2 : r * B = r * (W * b) + r * β := by rw [hB, yan]
 have w3 : s * B = W * y + q * (W * a) + s * β := by
  rw [hB, yan, Nat.mul_left_comm s W, <- hy, yan, Nat.mul_left_comm W q]
 have w4 : q * A = q * (W * a) + q * α := by rw [hA, yan]
 have i1 : r * β <= W * D := by
  rw [yai W D]; exact ycc (by omega) (by omega)
 have i2 : q * α <= W * y := by
  rw [yai W y]; exact ycc hq (by omega)
 have i3 : (r + s) * β < W * D := by
  have h2 : (r + s) * β < (r + s) * W := Nat.mul_lt_mul_of_pos_left hb (by omega)
  have h3 : (r + s) * W <= D * W := yaj _ (by omega)
  rw [yai W D]; omega
 have w5 : W * x = W * y + W * D := by rw [hD, yan]
 rw [yap] at i3; exact ⟨p * A - r * B, s * B - q * A, by omega, by omega, by omega⟩
theorem lehmer {a b A B W α β u0 u1 v0 v1 : Nat} {ev : Bool} (hA : A = W * a + α) (hB : B = W * b + β) (ha : α < W) (hb : β < W) (h : zzc9 a b u0 u1 v0 v1 ev) :
  ∃ X Y, (ev = true -> X + v0 * B = u0 * A /\ Y + u1 * A = v1 * B) /\ (ev = false -> X + u0 * A = v0 * B /\ Y + v1 * B = u1 * A) /\ Y < X /\ A = v1 * X + v0 * Y /\ B = u1 * X + u0 * Y /\ X + Y < A + B := by
 obtain ⟨x, y, k1, k2, k3, k4, k5, k6, k7, _⟩ := h
 have fin : ∀ X Y : Nat, Y < X -> A = v1 * X + v0 * Y -> B = u1 * X + u0 * Y -> X + Y < A + B := by
  intro X Y g1 g2 g3; have j1 : X <= v1 * X := Nat.le_mul_of_pos_left _ (by omega)
  have j2 : X <= u1 * X := Nat.le_mul_of_pos_left _ (by omega)
  omega
 cases ev with
 | true =>
  obtain ⟨m1, m2, m3⟩ := k1
  obtain ⟨X, Y, g1, g2, g3⟩ := zwa m2 m3 hA hB ha hb k3 (by omega) (by omega)
  obtain ⟨d1, d2⟩ := zjq m1 g1 g2
  exact ⟨X, Y, fun _ => ⟨g1, g2⟩, (fun h => absurd h (by decide)), g3, d1, d2, fin X Y g3 d1 d2⟩
 | false =>
  obtain ⟨m1, m2, m3⟩ := k1
  obtain ⟨X, Y, g1, g2, g3⟩ := zwa m2 m3 hB hA hb ha (by omega) (by omega) k2
  have m1' : v0 * u1 = v1 * u0 + 1 := by rw [yai v0 u1, yai v1 u0]; exact m1
  obtain ⟨d1, d2⟩ := zjq m1' g1 g2
  exact ⟨X, Y, (fun h => absurd h (by decide)), fun _ => ⟨g1, g2⟩, g3, d2, d1, fin X Y g3 d2 d1⟩
theorem zz2 {a b u0 u1 v0 v1 : Nat} {ev : Bool} (ha : a < 18446744073709551616) (hb : b < 18446744073709551616) (h : zzc9 a b u0 u1 v0 v1 ev) : u0 < 4294967296 /\ u1 < 4294967296 /\ v0 < 4294967296 /\ v1 < 4294967296 := by
 obtain ⟨x, y, k1, k2, k3, k4, k5, k6, k7, k8⟩ := h
 have key : a = v1 * x + v0 * y := by
  cases ev with
  | true =>
   obtain ⟨m1, m2, m3⟩ := k1
   exact (zjq m1 m2 m3).1
  | false =>
   obtain ⟨m1, m2, m3⟩ := k1
   have m1' : v0 * u1 = v1 * u0 + 1 := by rw [yai v0 u1, yai v1 u0]; exact m1
   exact (zjq m1' m2 m3).2
 have : v1 < 4294967296 := by
  rcases Nat.lt_or_ge v1 4294967296 with g | g
  ·exact g
  ·exfalso
   have : 4294967296 * 4294967296 <= v1 * x := ycc g (by omega)
   omega
 omega
end Go.Am
namespace Go.Am
theorem zzab {B : Nat} {l : List Nat} {m : Nat} (hl : l.length <= m + 3) : val B l = val B (l.take m) + B ^ m * (wd l m + B * (wd l (m + 1) + B * wd l (m + 2))) := by
 have h0 := zge B l m
 have h1 : val B (l.take (m + 2)) = val B (l.take (m + 1)) + B ^ (m + 1) * wd l (m + 1) := zge B l (m + 1)
 have h2 : val B (l.take (m + 3)) = val B (l.take (m + 2)) + B ^ (m + 2) * wd l (m + 2) := zge B l (m + 2)
 have p1 : B ^ (m + 1) = B ^ m * B := Nat.pow_succ _ _
 have p2 : B ^ (m + 2) = B ^ m * B * B := by rw [Nat.pow_succ, Nat.pow_succ]
 rw [ybb hl] at h2; rw [p1] at h1; rw [p2] at h2; rw [h2, h1, h0, yan (B ^ m), yan B, yan (B ^ m)]
 simp only [yak]; omega
theorem z1m {B p K m : Nat} {l : List Nat} (hB : B = p * K) (hp : 0 < p) (hB0 : 0 < B) (hlt : zau B l) (hl : l.length <= m + 3) :
  (wd l (m + 2) * B + wd l (m + 1)) * K + wd l m / p = val B l / (B ^ m * p) := by
 have h1 := zzab (B := B) hl
 have h2 : val B (l.take m) < B ^ m := by
  have h := zfw hB0 (zd1 hlt m)
  exact Nat.lt_of_lt_of_le h (Nat.pow_le_pow_right hB0 (by simp; omega))
 have h3 : val B l / B ^ m = wd l m + B * (wd l (m + 1) + B * wd l (m + 2)) := by
  rw [h1, Nat.add_mul_div_left _ _ (Nat.pow_pos hB0), Nat.div_eq_of_lt h2, yax]
 rw [<- Nat.div_div_eq_div_mul, h3]; generalize wd l m = x
 have e : B * (wd l (m + 1) + B * wd l (m + 2)) = p * (K * (wd l (m + 2) * B + wd l (m + 1))) := by
  rw [<- yak p, <- hB, yai (wd l (m + 2)), Nat.add_comm]
 rw [e, Nat.add_mul_div_left _ _ hp, yai K, Nat.add_comm]
end Go.Am
set_option maxRecDepth 100000
namespace Go.Proofs
open Go Go.Am
variable [zc6]
variable {t : Tr zam}
theorem zyc {la lb : List Nat} {pa pb : zab} {m top : Nat} {Q : zay} (ha : RSl t 1 (zas .u32 la) pa) (hb : RSl t 1 (zas .u32 lb) pb) (hal : zau BB la) (hbl : zau BB lb) (hla : la.length = m + 3) (hm : m < 700000) (hlb : lb.length <= m + 3) (htop : la[m + 2]? = some top) (ht0 : 0 < top) (hle : val BB lb <= val BB la)
  (hQ : ∀ u0 u1 v0 v1 ev W, 0 < W -> val BB la / W < 18446744073709551616 -> val BB lb / W < 18446744073709551616 -> (v0 = 0 \/ zzc9 (val BB la / W) (val BB lb / W) u0 u1 v0 v1 ev) -> Q (.agg [.int .u64 (u0 : Int), .int .u64 (u1 : Int), .int .u64 (v0 : Int), .int .u64 (v1 : Int), .bool ev]) t) :
  Wc C13 F 204 [pa, pb] t Q := by
 have hBB := zjf
 have htlt : top < 4294967296 := by have := zbi hal htop; omega
 obtain ⟨s, hs, hs1, hs2, hs3⟩ := z63 (t := t) htlt ht0
 obtain ⟨c, off, g1, g2⟩ := ha.idx zdl htop
 have hK : BB = 2 ^ (32 - s) * 2 ^ s := by rw [<- Nat.pow_add, show 32 - s + s = 32 by omega, hBB]
 have hp : 0 < 2 ^ (32 - s) := Nat.pow_pos (by decide)
 have va := z1m hK hp zcn hal (m := m) (by omega)
 have vb := z1m hK hp zcn hbl hlb
 have hW : 0 < BB ^ m * 2 ^ (32 - s) := Nat.mul_pos (Nat.pow_pos zcn) hp
 have hdiv : val BB lb / (BB ^ m * 2 ^ (32 - s)) <= val BB la / (BB ^ m * 2 ^ (32 - s)) := Nat.div_le_div_right hle
 have hwt : wd la (m + 2) = top := by unfold wd; rw [htop]; rfl
 have wa1 := zxv zcn hal (m + 1)
 have wa0 := zxv zcn hal m
 have hz : wd la m / 2 ^ (32 - s) < 2 ^ s := ybv (by rw [<- hK]; exact wa0)
 rw [hBB] at va vb; have bigA : (wd la (m + 2) * 4294967296 + wd la (m + 1)) * 2 ^ s + wd la m / 2 ^ (32 - s) < 18446744073709551616 := by
  rw [hwt]; have q1 : top + 1 <= 2 ^ (32 - s) := by
   have : top * 2 ^ s < 2 ^ (32 - s) * 2 ^ s := by rw [<- hK, hBB]; exact hs2
   exact Nat.lt_of_mul_lt_mul_right this
  have q2 : (top * 4294967296 + wd la (m + 1)) + 1 <= 2 ^ (32 - s) * 4294967296 := by
   have := yaj 4294967296 q1
   omega
  have q3 := yaj (2 ^ s) q2
  have q4 : 2 ^ (32 - s) * 4294967296 * 2 ^ s = 18446744073709551616 := by
   have : 2 ^ (32 - s) * 2 ^ s = 4294967296 := by rw [<- hK, hBB]
   rw [Nat.mul_right_comm, this]
  rw [yap, Nat.one_mul] at q3; omega
 have hBB' : ∀ l, val 4294967296 l = val BB l := fun l => by rw [hBB]
 have hPP : (4294967296 : Nat) ^ m = BB ^ m := by rw [hBB]
 rw [hBB', hPP] at va vb; have zq2 : (wd lb (m + 2) * 4294967296 + wd lb (m + 1)) * 2 ^ s + wd lb m / 2 ^ (32 - s) < 18446744073709551616 := by
  rw [va] at bigA; rw [vb]; exact Nat.lt_of_le_of_lt hdiv bigA
 have h1 := z78 (n := m + 3) (s := s) ha hal (by omega) (by omega) hs (Nat.lt_of_le_of_lt (Nat.le_add_right _ _) bigA)
 have h2 := z78 (n := m + 3) (s := s) hb hbl (by omega) (by omega) hs (Nat.lt_of_le_of_lt (Nat.le_add_right _ _) zq2)
 rw [show m + 3 - 1 = m + 2 by omega, show m + 3 - 2 = m + 1 by omega, show m + 3 - 3 = m by omega] at h1 h2; rw [va] at h1 bigA; rw [vb] at h2 zq2; generalize hw : BB ^ m * 2 ^ (32 - s) = W at *
 have e1 : ((m + 3 : Nat) : Int) - 1 = ((m + 2 : Nat) : Int) := by omega
 refine w204 _ _ ?_
 simp only [t204, wpT, ha.len, zaa, zag, zat, hla, e1]; rw [wrap_i64 (by omega) (by omega), g1, zaa, g2, zaa, zag, zaa, q212, hs3, zaa, zag, zaa, q213, h1, zaa, zag, zaa, q213, h2, zaa, zag, zaa]
 simp only [if_true]; exact ztg (P := Lsim (val BB la / W) (val BB lb / W)) bigA zq2 (fun x y u0 u1 u2 v0 v1 v2 ev hP hy k1 k2 => z9v hP hy k1 k2) (fun x y u0 u1 u2 v0 v1 v2 ev hP => hQ u0 u1 v0 v1 ev W hW bigA zq2 hP.2.2.2.2) _ _ 0 1 0 0 0 1 false 0 0 0 0 false (z9w _ _) (by omega) (by omega) hdiv (by omega) (by omega)
end Go.Proofs
namespace Go.Am
theorem z8f {A B X Y u0 u1 v0 v1 : Nat} {ev : Bool} (h1 : ev = true -> X + v0 * B = u0 * A /\ Y + u1 * A = v1 * B) (h2 : ev = false -> X + u0 * A = v0 * B /\ Y + v1 * B = u1 * A) (hA : A = v1 * X + v0 * Y) (hB : B = u1 * X + u0 * Y) : Nat.gcd X Y = Nat.gcd A B := by
 have gX := Nat.gcd_dvd_left X Y
 have gY := Nat.gcd_dvd_right X Y
 have gA := Nat.gcd_dvd_left A B
 have gB := Nat.gcd_dvd_right A B
 refine Nat.dvd_antisymm (Nat.dvd_gcd ?_ ?_) (Nat.dvd_gcd ?_ ?_)
 ·generalize Nat.gcd X Y = g at *
  rw [hA]; exact Nat.dvd_add (ybf gX _) (ybf gY _)
 ·generalize Nat.gcd X Y = g at *
  rw [hB]; exact Nat.dvd_add (ybf gX _) (ybf gY _)
 ·generalize Nat.gcd A B = g at *
  cases ev with
  | true =>
   have := (h1 rfl).1
   exact (Nat.dvd_add_left (ybf gB v0)).1 (this ▸ ybf gA u0)
  | false =>
   have := (h2 rfl).1
   exact (Nat.dvd_add_left (ybf gA u0)).1 (this ▸ ybf gB v0)
 ·generalize Nat.gcd A B = g at *
  cases ev with
  | true =>
   have := (h1 rfl).2
   exact (Nat.dvd_add_left (ybf gA u1)).1 (this ▸ ybf gB v1)
  | false =>
   have := (h2 rfl).2
   exact (Nat.dvd_add_left (ybf gB v1)).1 (this ▸ ybf gA u1)
theorem z8g {a b q r : Nat} (h : a = b * q + r) : Nat.gcd b r = Nat.gcd a b := by
 subst h; rw [Nat.gcd_comm (b * q + r) b, yai, Nat.gcd_comm b (q * b + r), Nat.gcd_mul_right_add_left]
 exact Nat.gcd_comm _ _
theorem zzf4 {x y : Nat} : Nat.gcd y (x % y) = Nat.gcd x y := by
 rw [Nat.gcd_comm y (x % y), <- Nat.gcd_rec, Nat.gcd_comm]
theorem zve {B : Nat} {l : List Nat} (hB : 0 < B) (h : zau B l) (hl : l.length <= 2) : val B l < B * B := by
 have h1 := zfw hB h
 have h2 : B ^ l.length <= B ^ 2 := Nat.pow_le_pow_right hB hl
 rw [Nat.pow_two] at h2; omega
end Go.Am
namespace Go.Proofs
open Go Go.Am
variable [zc6]
variable {t : Tr zam}
theorem z73 {c : Prop} {d : Decidable c} {P Q : Prop} (h : c) (k : P) : @ite Prop c d P Q := by rw [if_pos h]; exact k
theorem ite_no {c : Prop} {d : Decidable c} {P Q : Prop} (h : ¬ c) (k : Q) : @ite Prop c d P Q := by rw [if_neg h]; exact k
theorem zzb {Q : zay} : ∀ (y x : Nat), x < 18446744073709551616 -> y < 18446744073709551616 -> (∀ t' r rv, TLe t t' -> RSl t' 1 (zas .u32 r) rv -> zau BB r -> norm r -> val BB r = Nat.gcd x y -> Q rv t') -> jp 194 6 [.int .u64 (x : Int), .int .u64 (y : Int)] t Q := by
 have hBB := zjf
 intro y; induction y using Nat.strongRecOn with
 | ind y ih =>
  intro x hx hy hQ; refine j194_6 _ _ ?_
  simp only [zzdk, wpT, ztu]; by_cases h0 : y = 0
  ·subst h0
   rw [if_neg (by simp)]
   simp only [q208]; refine zzaw hx fun t' v' h1 h2 => ?_
   have a1 := zxc hx
   have a2 := z17 x
   rw [<- hBB] at a1 a2; exact hQ t' (zrv x) v' h1 h2 a1 (zyu x) (by rw [a2, Nat.gcd_zero_right])
  ·rw [if_pos (by omega), zoo (by omega), zaa, zag, zaa]
   have hm := ybz x (show 0 < y by omega)
   have hg := zzf4 (x := x) (y := y)
   generalize x % y = z at *
   exact ih z hm y hy (by omega) fun t' r rv k1 k2 k3 k4 k5 => hQ t' r rv k1 k2 k3 k4 (by rw [k5, hg])
theorem z65 {l : List Nat} {v : zab} (hv : RSl t 1 (zas .u32 l) v) (hl : l.length <= 2) (hlt : zau BB l) : pvC C13 F 207 [v] t = some (.int .u64 ((val BB l : Nat) : Int)) := by
 have hBB := zjf
 rw [hBB] at hlt ⊢
 exact zzfn hv hl hlt
theorem z89 {la lb : List Nat} {pa pb : zab} {Q : zay} (ha : RSl t 1 (zas .u32 la) pa) (hb : RSl t 1 (zas .u32 lb) pb) (hal : zau BB la) (hbl : zau BB lb) (hla : la.length <= 2) (hlb : lb.length <= 2)
  (hQ : ∀ t' r rv, TLe t t' -> RSl t' 1 (zas .u32 r) rv -> zau BB r -> norm r -> val BB r = Nat.gcd (val BB la) (val BB lb) -> Q rv t') : jp 194 33 [pa, pb] t Q := by
 have hBB := zjf
 have b1 := zve zcn hal hla
 have b2 := zve zcn hbl hlb
 refine zzfu _ _ ?_
 simp only [z5p, wpT, q207, z65 ha hla hal, z65 hb hlb hbl, zaa, zag]; rw [hBB] at b1 b2; have hBB' : ∀ l, val 4294967296 l = val BB l := fun l => by rw [hBB]
 rw [hBB'] at b1 b2; exact zzb _ _ b1 b2 hQ
theorem z9a {Q : zay} {t0 : Tr zam} {G : Nat} (hQ : ∀ t' r rv, TLe t0 t' -> RSl t' 1 (zas .u32 r) rv -> zau BB r -> norm r -> val BB r = G -> Q rv t') : ∀ (n : Nat) (la lb : List Nat) (pa pb : zab) (t : Tr zam), val BB la + val BB lb = n -> TLe t0 t -> RSl t 1 (zas .u32 la) pa -> RSl t 1 (zas .u32 lb) pb -> zau BB la -> zau BB lb -> norm la -> norm lb -> val BB lb <= val BB la -> la.length < 700000 -> Nat.gcd (val BB la) (val BB lb) = G -> jp 194 2 [pa, pb] t Q := by
 have hBB := zjf
 have hB1 : 1 < BB := by omega
 intro n; induction n using Nat.strongRecOn with
 | ind n ih =>
  intro la lb pa pb t hn ht ha hb hal hbl han hbn hle hlen hg; have hlb : lb.length <= la.length := zes hB1 hal hbn hle
  refine j194_2 _ _ ?_
  simp only [zzdl, wpT, hb.len, zaa, zag, zat, za7]; by_cases h2 : 2 < lb.length
  ·rw [if_pos (by omega)]
   have hb0 : lb ≠ [] := by intro e; subst e; simp at h2
   have hbpos : 0 < val BB lb := by
    rcases Nat.eq_zero_or_pos (val BB lb) with h | h
    ·exact absurd (zh5 zcn hbn h) hb0
    ·exact h
   obtain ⟨m, hm⟩ : ∃ m, la.length = m + 3 := ⟨la.length - 3, by omega⟩
   obtain ⟨top, htop⟩ := getElem?_of_lt (l := la) (i := m + 2) (by omega)
   have ha0 : la ≠ [] := by intro e; subst e; simp at hm
   have ht0 : 0 < top := by
    have := han ha0
    have hlast : la.getLast ha0 = top := by
     rw [List.getLast_eq_getElem]; have : la[la.length - 1]? = some top := by rw [hm]; exact htop
     rw [yae (by omega)] at this
     exact ybj this
    rw [hlast] at this; omega
   rw [q204]; refine zyc ha hb hal hbl hm (by omega) (by omega) htop ht0 hle fun u0 u1 v0 v1 ev W hW hA hB hL => ?_
   have eG : z96 [(.int .u64 0), (.int .u64 0), (.int .u64 0), (.int .u64 0), (.bool false)] (.agg [.int .u64 (u0 : Int), .int .u64 (u1 : Int), .int .u64 (v0 : Int), .int .u64 (v1 : Int), .bool ev]) = some (cellsOf [.int .u64 (u0 : Int), .int .u64 (u1 : Int), .int .u64 (v0 : Int), .int .u64 (v1 : Int), .bool ev]) := zzy rfl
   rw [eG]; simp only [zaa, cellsOf, zzfy, zsu, yaa, yab, if_true, zza0]; by_cases hv0 : v0 = 0
   ·refine z73 (zew.2 (by omega)) ?_
    rw [q205]; refine zwu ha hb hlen hal hbl han hbn hb0 fun t' q r qv rv k1 k2 k3 k4 k5 k6 k7 k8 k9 => ?_
    simp only [zao, zab.asTup, zad, zbe, yaa, yab, zaa]; refine ih (val BB lb + val BB r) (by omega) lb r pb rv t' rfl (ht.trans k1) (hb.mono k1) k3 hbl k5 hbn k7 (by omega) (by omega) ?_
    rw [z8g k8]; exact hg
   ·refine ite_no (fun e => absurd (zew.1 e) (by omega)) ?_
    rcases hL with h | hL
    ·exact absurd h hv0
    obtain ⟨s1, s2, s3, s4⟩ := zz2 hA hB hL
    have eA : val BB la = W * (val BB la / W) + val BB la % W := (ybi _ _).symm
    have eB : val BB lb = W * (val BB lb / W) + val BB lb % W := (ybi _ _).symm
    obtain ⟨X, Y, l1, l2, l3, l4, l5, l6⟩ := lehmer eA eB (ybz _ hW) (ybz _ hW) hL
    have hgg := z8f l1 l2 l4 l5
    have hXA : X <= val BB la := by
     have : X <= v1 * X := Nat.le_mul_of_pos_left _ (by
      obtain ⟨x, y, _, _, _, _, _, _, w2, w3⟩ := hL; omega)
     omega
    cases ev with
    | true =>
     obtain ⟨m1, m2⟩ := l1 rfl
     simp only [if_true]; rw [q206]; refine zf6 ha hb hal hbl s1 s3 hlen (by omega) (by omega) fun t1 r1 rv1 k1 k2 k3 k4 k5 => ?_
     rw [q206]; refine zf6 (hb.mono k1) (ha.mono k1) hbl hal s4 s2 (by omega) hlen (by omega) fun t2 r2 rv2 j1 j2 j3 j4 j5 => ?_
     have e1 : val BB r1 = X := by omega
     have e2 : val BB r2 = Y := by omega
     refine ih (val BB r1 + val BB r2) (by omega) r1 r2 rv1 rv2 t2 rfl (ht.trans (k1.trans j1)) (k2.mono j1) j2 k3 j3 k4 j4 (by omega) ?_ (by rw [e1, e2, hgg]; exact hg)
     have := zes hB1 hal k4 (by rw [e1]; exact hXA)
     omega
    | false =>
     obtain ⟨m1, m2⟩ := l2 rfl
     simp only [if_true, yar, if_false]; rw [q206]; refine zf6 hb ha hbl hal s3 s1 (by omega) hlen (by omega) fun t1 r1 rv1 k1 k2 k3 k4 k5 => ?_
     rw [q206]; refine zf6 (ha.mono k1) (hb.mono k1) hal hbl s2 s4 hlen (by omega) (by omega) fun t2 r2 rv2 j1 j2 j3 j4 j5 => ?_
     have e1 : val BB r1 = X := by omega
     have e2 : val BB r2 = Y := by omega
     refine ih (val BB r1 + val BB r2) (by omega) r1 r2 rv1 rv2 t2 rfl (ht.trans (k1.trans j1)) (k2.mono j1) j2 k3 j3 k4 j4 (by omega) ?_ (by rw [e1, e2, hgg]; exact hg)
     have := zes hB1 hal k4 (by rw [e1]; exact hXA)
     omega
  ·rw [if_neg (by omega)]
   simp only [zew]; by_cases h0 : lb.length = 0
   ·rw [if_pos (by omega)]
    have : lb = [] := ybd.1 h0
    subst this; refine hQ t la pa ht ha hal han ?_
    rw [<- hg]; simp only [val]; rw [Nat.gcd_zero_right]
   ·rw [if_neg (by omega)]
    simp only [ha.len, zaa, zag, zat, za7]; have hb0 : lb ≠ [] := by intro e; subst e; simp at h0
    by_cases h3 : 2 < la.length
    ·rw [if_pos (by omega), q205]
     refine zwu ha hb hlen hal hbl han hbn hb0 fun t' q r qv rv k1 k2 k3 k4 k5 k6 k7 k8 k9 => ?_
     simp only [zao, zab.asTup, zad, zbe, yaa, yab, zaa]; have := zes hB1 hbl k7 (Nat.le_of_lt k9)
     refine z89 (hb.mono k1) k3 hbl k5 (by omega) (by omega) fun t2 r2 rv2 j1 j2 j3 j4 j5 => ?_
     exact hQ t2 r2 rv2 (ht.trans (k1.trans j1)) j2 j3 j4 (by rw [j5, z8g k8]; exact hg)
    ·rw [if_neg (by omega)]
     refine z89 ha hb hal hbl (by omega) (by omega) fun t2 r2 rv2 j1 j2 j3 j4 j5 => ?_
     exact hQ t2 r2 rv2 (ht.trans j1) j2 j3 j4 (by rw [j5]; exact hg)
theorem cd_ok {la lb : List Nat} {pa pb : zab} {Q : zay} (ha : RSl t 1 (zas .u32 la) pa) (hb : RSl t 1 (zas .u32 lb) pb) (hal : zau BB la) (hbl : zau BB lb) (han : norm la) (hbn : norm lb) (hla : la.length < 700000) (hlb : lb.length < 700000)
  (hQ : ∀ t' r rv, TLe t t' -> RSl t' 1 (zas .u32 r) rv -> zau BB r -> norm r -> val BB r = Nat.gcd (val BB la) (val BB lb) -> Q rv t') : Wc C13 F 194 [pa, pb] t Q := by
 have hBB := zjf
 have hB1 : 1 < BB := by omega
 have hlt := z86 hB1 hal hbl han hbn
 refine w194 _ _ ?_
 simp only [t194, wpT, q203, zzeh (by omega) ha hb, zaa, zag, za7]
 by_cases hc : zuj la lb < 0
 ·rw [if_pos hc]
  have := hlt.1 hc
  exact z9a hQ _ lb la pb pa t rfl (TLe.refl _) hb ha hbl hal hbn han (by omega) hlb (Nat.gcd_comm _ _)
 ·rw [if_neg hc]
  have : val BB lb <= val BB la := Nat.le_of_not_lt fun h => hc (hlt.2 h)
  exact z9a hQ _ la lb pa pb t rfl (TLe.refl _) ha hb hal hbl han hbn this hla rfl
end Go.Proofs
namespace Go.Proofs
open Go Go.Am
variable [zc6]
variable {t : Tr zam}
theorem zlj {neg : Bool} {l : List Nat} (h : zd2 neg l = true) : norm l := by
 intro hne; unfold zd2 at h; rw [if_neg hne, yac] at h; have := of_decide_eq_true h.2
 intro e; exact this (by rw [List.getLast?_eq_some_getLast hne, e])
theorem zup {l : List ze1} {v : zab} (hv : RSl t 2 (l.map ze1.d) v) (hb : ∀ w ∈ l, w.limbs.length < 1125899906842624) (hn : l.length < 1125899906842624) : ∀ (k i : Nat), i + k = l.length -> jp 192 2 [v, .int .i64 (l.length : Int), .int .i64 (i : Int)] t (fun r m => r = .bool ((l.drop i).all fun w => zd2 w.neg w.limbs) /\ m = t) := by
 intro k; induction k with
 | zero =>
  intro i hi; refine zzd7 _ _ _ ?_
  simp only [z5r, wpT, za7]; rw [if_neg (by omega), yau (by omega)]
  (first | exact ⟨rfl, rfl⟩ | exact ⟨rfl, trivial⟩ | trivial)
 | succ k ih =>
  intro i hi; have hlt : i < l.length := by omega
  have hx : l[i]? = some l[i] := yae hlt
  obtain ⟨b, off, cs, g1, g2, _, _, g5⟩ := zxl.at sl237 (by simp) hv (i := i) (d := l[i].d) (by simp [hx])
  obtain ⟨u, rfl, hu⟩ := zza6 g5
  have hv1 := zof (neg := l[i].neg) (hb _ (ybk hlt)) hu
  refine zzd7 _ _ _ ?_
  simp only [z5r, wpT, za7]; rw [if_pos (by omega), g1, zaa, g2, zzev, zaa, zzgr g5 (ze1.zs _)]
  simp only [zaa, cellsOf, zsu, z4p, yaa, yab]; have hone : zgv zab.one [.bool l[i].neg, u] = true := by
   show (bif zab.one (.bool l[i].neg) then (bif zab.one u then true else false) else false) = true
   rw [hu.one]; rfl
  refine z73 hone ?_
  rw [q148, hv1]; simp only [zaa, zeg, ztv]; rw [yam hlt, ybh]
  cases hq : zd2 l[i].neg l[i].limbs with
  | false => simp
  | true =>
   simp only [ybo, Bool.true_eq_false, if_false]; rw [wrap_i64 (by omega) (by omega)]
   exact ih (i + 1) (by omega)
theorem zzw {l : List ze1} {v : zab} (hv : RSl t 2 (l.map ze1.d) v) (hb : ∀ w ∈ l, w.limbs.length < 1125899906842624) (hn : l.length < 1125899906842624) : pvC C13 F 192 [v] t = some (.bool (l.all fun w => zd2 w.neg w.limbs)) := by
 refine zbd.2 (w192 _ ?_)
 simp only [t192, wpT, hv.len, zaa, zag, yag]; have := zup hv hb hn l.length 0 (by omega)
 rw [ybs] at this; exact this
theorem gcd_ok {n d : ze1} {u v : zab} {Q : zay} (hu : RSl t 1 (zoc n.limbs) u) (hv : RSl t 1 (zoc d.limbs) v) (hn : n.limbs.length < 700000) (hd : d.limbs.length < 700000) (hnl : zau 65536 n.limbs) (hdl : zau 65536 d.limbs) (hnv : zd2 n.neg n.limbs = true) (hdv : zd2 d.neg d.limbs = true)
  (hQ : ∀ t' g rv, TLe t t' -> RSl t' 1 (zoc g) rv -> zau 65536 g -> norm g -> val 65536 g = Nat.gcd (val 65536 n.limbs) (val 65536 d.limbs) -> Q (.tup [.agg [.bool false, rv], .int .i64 0]) t') : Wc C13 F 172 [.agg [.bool n.neg, u], .agg [.bool d.neg, v]] t Q := by
 have hBB := zjf
 refine w172 _ _ _ _ ?_
 simp only [t172, wpT]; intro b hb hbase; obtain ⟨t1, g1, g2, g3, g4⟩ := z69 (C := C13) (T := 237) (el := 24) (sz := 2) (n := 2) (cl := [[.bool n.neg, u], [.bool d.neg, v]]) (ps := [(0, .agg [.bool n.neg, u]), (1, .agg [.bool d.neg, v])]) ty237 rfl ty24 rfl rfl (by decide) rfl (fun i cs hi => by
  rcases i with _ | _ | i
  ·simp at hi; subst hi; rfl
  ·simp at hi; subst hi; rfl
  ·simp at hi) rfl hb
 rw [g1, zaa]; have hw : RSl t1 2 ([n, d].map ze1.d) (.slice b 0 2 2) := ⟨_, g2, by
  simp only [ybn, List.map_nil, zim, zik]; refine ⟨_, _, rfl, ?_, _, _, rfl, ?_, rfl⟩
  ·unfold ze1.d
   rw [zzc6]; refine ⟨[[.bool n.neg], [u]], rfl, ?_⟩
   simp only [zim, zik, zz1, zzc7]; exact ⟨_, _, rfl, rfl, _, _, rfl, ⟨u, rfl, hu.mono g3⟩, rfl⟩
  ·unfold ze1.d
   rw [zzc6]; refine ⟨[[.bool d.neg], [v]], rfl, ?_⟩
   simp only [zim, zik, zz1, zzc7]; exact ⟨_, _, rfl, rfl, _, _, rfl, ⟨v, rfl, hv.mono g3⟩, rfl⟩⟩
 have hall := zzw hw (fun w hw => by
  rcases yat.1 hw with rfl | hw
  ·omega
  ·rw [yce.1 hw]; omega) (by simp)
 rw [q192, hall]; simp only [zaa, zeg, ztv, ybh, ybl, hnv, hdv, Bool.and_self, Bool.true_eq_false, if_false]; rw [q151]; refine zyn (hu.mono g3) (by omega) hnl fun t2 v2 k1 k2 => ?_
 rw [if_pos hv.same, q151]; refine zyn ((hv.mono g3).mono k1) (by omega) hdl fun t3 v3 m1 m2 => ?_
 have an := zgs hnl
 have ad := zgs hdl
 rw [<- hBB] at an ad; rw [q194]; refine cd_ok (k2.mono m1) m2 an ad (zjm (zlj hnv)) (zjm (zlj hdv)) (by rw [zdg]; omega) (by rw [zdg]; omega) fun t4 r rv p1 p2 p3 p4 p5 => ?_
 rw [hBB] at p3; have vn : ∀ l, val BB (zdh l) = val 65536 l := fun l => by rw [hBB]; exact zo1 l
 rw [vn, vn] at p5; have hrl : r.length < 400000 := by
  have hB1 : 1 < BB := by omega
  rcases Nat.eq_zero_or_pos (val 65536 n.limbs) with h0 | h0
  ·rw [h0, Nat.gcd_zero_left, <- vn] at p5
   have := zes hB1 ad p4 (Nat.le_of_eq p5)
   rw [zdg] at this; omega
  ·have h1 := Nat.gcd_le_left (val 65536 d.limbs) h0
   rw [<- p5, <- vn] at h1; have := zes hB1 an p4 h1
   rw [zdg] at this; omega
 rw [q193]; refine z4x p2 hrl p3 fun t5 v5 s1 s2 => ?_
 rw [zho p4] at s2 ⊢
 have eG : z96 [(.bool false), .nilslice] (.agg [.bool (if r = [] then false else false), v5]) = some (cellsOf [.bool (if r = [] then false else false), v5]) := zzy (by
  show (true && (zzcc .nilslice v5 && true)) = true
  rw [zqe s2]; rfl)
 rw [eG]; have hone : zgv zab.one [.bool false, v5] = true := by
  show (bif zab.one (.bool false) then (bif zab.one v5 then true else false) else false) = true
  rw [s2.one]; rfl
 simp only [zaa, cellsOf, zsu, z4p, yaa, yab, ite_self, hone, if_true]; refine hQ t5 (zco (zbn r)) v5 (g3.trans (k1.trans (m1.trans (p1.trans s1)))) s2 (zcu (zmd p3)) (zdk _) ?_
 rw [zc1, <- p5, zo0, hBB]
end Go.Proofs
namespace Go.Am
def ze2.fit (f : ze2) : Prop := f.ok /\ zau 65536 f.n.limbs /\ zau 65536 f.d.limbs
def z4h.fit (v : z4h) : Prop := v.kind < 256 /\ v.f.fit /\ -9223372036854775808 <= v.i /\ v.i < 9223372036854775808
mutual
def zuq.fit : zuq -> Prop
 | .mk op name v args => op < 256 /\ name.length < zq2 /\ (∀ c ∈ name, c < 256) /\ v.fit /\ args.length < zq2 /\ zuq.fits args
def zuq.fits : List zuq -> Prop
 | [] => True
 | x :: l => x.fit /\ zuq.fits l
end
def i64 (n : Int) : Prop := -9223372036854775808 <= n /\ n < 9223372036854775808
def XRow.fit (r : XRow) : Prop := i64 r.a /\ i64 r.b /\ i64 r.known /\ r.f.fit
def z9r.fit (x : z9r) : Prop := x.name.length < zq2 /\ x.rows.length < zq2 /\ ∀ r ∈ x.rows, r.fit
def XDef.fit (x : XDef) : Prop := x.name.length < zq2 /\ x.kind < 256
def zzz.fit (x : zzz) : Prop := x.name.length < zq2 /\ x.label.length < zq2 /\ i64 x.from_ /\ i64 x.to /\ i64 x.known /\ x.when_.fit /\ x.then_.fit
structure XPlan.fit (p : XPlan) : Prop where
 name : p.name.length < zq2
 ndefs : p.defs.length < zq2
 ntables : p.tables.length < zq2
 nclauses : p.clauses.length < zq2
 defs : ∀ d ∈ p.defs, d.fit
 tables : ∀ d ∈ p.tables, d.fit
 clauses : ∀ d ∈ p.clauses, d.fit
end Go.Am
namespace Go.Proofs
open Go Go.Am
variable [zc6]
variable {t : Tr zam}
def sameW (a b : ze1) : Bool := (a.neg == b.neg) && decide (a.limbs = b.limbs)
def sameF (a b : ze2) : Bool := sameW a.n b.n && sameW a.d b.d
def sameV (a b : z4h) : Bool := decide (a.kind = b.kind) && decide (a.i = b.i) && sameF a.f b.f
def znv (w : ze1) : Bool := !w.neg && decide (w.limbs = [1])
def zg0 (f : ze2) : Bool := decide (f.n.limbs.length <= 256) && decide (f.d.limbs.length <= 256) && zd2 f.n.neg f.n.limbs && zd2 f.d.neg f.d.limbs && !f.d.neg && decide (f.d.limbs ≠ []) && (znv f.d || decide (Nat.gcd (val 65536 f.n.limbs) (val 65536 f.d.limbs) = 1))
theorem zzf0 {a b : Int} : iLt a b = decide (a < b) := by
 cases h : iLt a b with
 | true => rw [decide_eq_true (za7.1 h)]
 | false => rw [decide_eq_false (fun k => by rw [za7.2 k] at h; cases h)]
theorem zzf1 {a b : Int} : iLe a b = decide (a <= b) := by
 cases h : iLe a b with
 | true => rw [decide_eq_true (zdi.1 h)]
 | false => rw [decide_eq_false (fun k => by rw [zdi.2 k] at h; cases h)]
theorem zy4 {a b : Int} : iEq a b = decide (a = b) := by
 cases h : iEq a b with
 | true => rw [decide_eq_true (zew.1 h)]
 | false => rw [decide_eq_false (fun k => by rw [zew.2 k] at h; cases h)]
theorem zs8 {f : ze2} {u v : zab} (hu : RSl t 1 (zoc f.n.limbs) u) (hv : RSl t 1 (zoc f.d.limbs) v) (hf : ze2.fit f) : pvC C13 F 116 [.agg [.bool f.n.neg, u, .bool f.d.neg, v]] t = some (.bool (zg0 f)) := by
 obtain ⟨h1, h2, h3⟩ := hf
 unfold ze2.ok zq2 at h1; have c1 : pvC C13 F 147 [.agg [.bool f.n.neg, u, .bool f.d.neg, v]] t = some (.bool (!(decide (f.n.limbs.length <= 256) && decide (f.d.limbs.length <= 256)))) := by
  refine zbd.2 (w147 _ _ _ _ ?_)
  simp only [t147, wpT, hu.len, hv.len, zaa, zag, zot]; have e : iLt 256 (f.d.limbs.length : Int) = !decide (f.d.limbs.length <= 256) := by
   rw [zzf0, <- decide_not]; congr 1; exact propext ⟨by omega, by omega⟩
  by_cases g1 : f.n.limbs.length <= 256
  ·rw [if_neg (fun h => absurd (za7.1 h) (by omega)), e]
   simp [g1]
  ·rw [if_pos (za7.2 (by omega))]; simp [g1]
 have c2 := zof (neg := f.n.neg) (by omega) hu
 have c3 := zof (neg := f.d.neg) (by omega) hv
 have c4 : pvC C13 F 118 [.agg [.bool f.n.neg, u, .bool f.d.neg, v]] t = some (.bool (znv f.d)) := by
  refine zbd.2 (w118 _ _ _ _ ?_)
  simp only [t118, wpT, q149, zt0 hv, zaa, zeg]; (first | exact ⟨rfl, rfl⟩ | exact ⟨rfl, trivial⟩ | trivial)
 refine zza8 (w116 _ _ _ _ ?_)
 simp only [t116, wpT, q147, c1, q148, c2, c3, q118, c4, zaa, zeg, hv.len, zag, zot, zew, ztv]; unfold zg0; by_cases g1 : f.n.limbs.length <= 256
 ·by_cases g2 : f.d.limbs.length <= 256
  ·simp only [g1, g2, decide_true, ybo, Bool.not_true, yar, if_false]
   cases hn : zd2 f.n.neg f.n.limbs with
   | false => simp
   | true =>
    cases hd : zd2 f.d.neg f.d.limbs with
    | false => simp
    | true =>
     simp only [Bool.true_eq_false, if_false, ybo]
     cases hg : f.d.neg with
     | true => simp
     | false =>
      simp only [yar, if_false, ybm, ybo]; by_cases h0 : f.d.limbs = []
      ·rw [if_pos (by rw [h0]; rfl)]; simp [h0]
      ·have : f.d.limbs.length ≠ 0 := fun e => h0 (ybd.1 e)
       rw [if_neg (by omega)]
       simp only [h0, ne_eq, not_false_eq_true, decide_true, ybo]
       cases ho : znv f.d with
       | true => simp
       | false =>
        simp only [yar, if_false, Bool.false_or]; rw [q150]; refine w150 _ _ _ _ ?_
        simp only [t150, wpT, q172]; have hn' := hn
        have hd' := hd
        rw [hg] at hd'
        refine gcd_ok (n := f.n) (d := ⟨false, f.d.limbs⟩) hu hv (by omega) (by show f.d.limbs.length < _; omega) h2 h3 hn' hd' fun t' g rv k1 k2 k3 k4 k5 => ?_
        have eG : z96 [(.bool false), .nilslice] (.agg [.bool false, rv]) = some (cellsOf [.bool false, rv]) := zzy (by
         show (true && (zzcc .nilslice rv && true)) = true
         rw [zqe k2]; rfl)
        have hone : zgv zab.one [.bool false, rv] = true := by
         show (bif zab.one (.bool false) then (bif zab.one rv then true else false) else false) = true
         rw [k2.one]; rfl
        simp only [zao, zab.asTup, zad, zbe, yaa, yab, zaa, zag, eG, cellsOf, zsu, z4p, hone, if_true]; rw [q149, zt0 k2]; simp only [zaa, zeg, ybm, ybo]
        refine ⟨?_, k1⟩
        congr 1
        rw [decide_eq_decide, <- k5]; constructor
        ·intro e; subst e; rfl
        ·intro e
         exact zzbj (B := 65536) (by decide) k3 (fun x hx => by rw [yce.1 hx]; decide) k4 (fun _ => by simp) (by rw [e]; rfl)
  ·simp [g2]
 ·simp [g1]
theorem zu5 {f : ze2} {u v : zab} (hu : RSl t 1 (zoc f.n.limbs) u) (hv : RSl t 1 (zoc f.d.limbs) v) (hf : ze2.fit f) : pvC C13 F 91 [.agg [.bool f.n.neg, u, .bool f.d.neg, v]] t = some (.bool (zg0 f)) := by
 refine zbd.2 (w91 _ _ _ _ ?_)
 simp only [t91, wpT, q116, zs8 hu hv hf, zaa, zeg, if_true]; exact ⟨trivial, trivial⟩
end Go.Proofs
namespace Go.Proofs
open Go Go.Am
variable [zc6]
variable {t : Tr zam}
theorem zea {a b : List Nat} (h : a.length + b.length < 4611686018427387904) : zxj a b = some (.str (a ++ b)) := by
 unfold zxj; rw [zav, zav, zcz.2 h, zbx]; rfl
theorem z0m {s : List Nat} {k : Nat} (h : k <= s.length) : zcr C13 9 H0A (.str s) (some (.int .i64 (k : Int))) none = some (.str (s.drop k)) := by
 unfold zcr zfx; rw [ty9, zad]; simp only [zab.asStr]; rw [show zb9.isString .string = true from rfl, zar]; unfold zoj zfe zqn zl6; have e : ziv (k : Int) = some k := rfl
 simp only [zad, zab.asNat, zab.asInt, e, zav, zhm.2 h, zhm.2 (yal _), zar, zfi, zf5, List.take_length]
theorem zzau {s : List Nat} {k : Nat} (h : k <= s.length) : zcr C13 9 H0A (.str s) none (some (.int .i64 (k : Int))) = some (.str (s.take k)) := by
 unfold zcr zfx; rw [ty9, zad]; simp only [zab.asStr]; rw [show zb9.isString .string = true from rfl, zar]; unfold zoj zfe zqn zl6; have e : ziv (k : Int) = some k := rfl
 simp only [zad, zab.asNat, zab.asInt, e, zav, zhm.2 h, zhm.2 (Nat.zero_le _), zar, zfi, zf5, ybs]
def zq1 (a b : List Nat) : Bool := decide (b.length <= a.length) && zhk (a.take b.length) b
theorem znx {a b : List Nat} : pvC C13 F 155 [.str a, .str b] t = some (.bool (zq1 a b)) := by
 refine zbd.2 (w155 _ _ ?_)
 simp only [t155, wpT, zll, zdi]; unfold zq1; by_cases h : b.length <= a.length
 ·rw [if_pos (by omega), zzau h, zaa]
  simp [zab.asStr, h]
 ·rw [if_neg (by omega)]
  simp [h]
theorem zs7 {a b : List Nat} : pvC C13 F 93 [.str a, .str b] t = some (.str (if zq1 a b then a.drop b.length else a)) := by
 have h : pvC C13 F 119 [.str a, .str b] t = some (.str (if zq1 a b then a.drop b.length else a)) := by
  refine zbd.2 (w119 _ _ ?_)
  simp only [t119, wpT, q155, znx, zaa, zab.asBool, zll]
  cases hp : zq1 a b with
  | true =>
   simp only [if_true]; have : b.length <= a.length := by unfold zq1 at hp; simp at hp; exact hp.1
   rw [z0m this, zaa]; simp [zab.asStr]
  | false => simp
 refine zbd.2 (w93 _ _ ?_)
 simp only [t93, wpT, q119, h, zaa, zab.asStr]; first | exact ⟨rfl, rfl⟩ | exact ⟨trivial, trivial⟩ | exact ⟨rfl, trivial⟩
theorem zwx {a b : List Nat} : pvC C13 F 120 [.str a, .str b] t = some (.tup [.str (if zq1 a b then a.drop b.length else a), .bool (zq1 a b)]) := by
 have h : pvC C13 F 156 [.str a, .str b] t = some (.tup [.str (if zq1 a b then a.drop b.length else a), .bool (zq1 a b)]) := by
  refine zbd.2 (w156 _ _ ?_)
  simp only [t156, wpT, q155, znx, zaa, zab.asBool, zll]
  cases hp : zq1 a b with
  | true =>
   simp only [Bool.not_true, yar, if_false]; have : b.length <= a.length := by unfold zq1 at hp; simp at hp; exact hp.1
   rw [z0m this, zaa]; simp [zab.asStr]
  | false => simp
 refine zbd.2 (w120 _ _ ?_)
 have x0 : ∀ u v, zao 0 (.tup [u, v]) = some u := fun _ _ => rfl
 have x1 : ∀ u v, zao 1 (.tup [u, v]) = some v := fun _ _ => rfl
 simp only [t120, wpT, q156, h, zaa, x0, x1, zab.asStr, zab.asBool]; first | exact ⟨rfl, rfl⟩ | exact ⟨trivial, trivial⟩ | exact ⟨rfl, trivial⟩
def zdm (s : List Nat) : List Nat := if zq1 s [45] then [109, 105, 110, 117, 115, 32] ++ s.drop 1 else s
theorem zvi {s : List Nat} (h : s.length < 4000000000000000000) : pvC C13 F 95 [.str s] t = some (.str (zdm s)) := by
 refine zbd.2 (w95 _ ?_)
 have x0 : ∀ u v, zao 0 (.tup [u, v]) = some u := fun _ _ => rfl
 have x1 : ∀ u v, zao 1 (.tup [u, v]) = some v := fun _ _ => rfl
 simp only [t95, wpT, q120, zwx, zaa, x0, x1, zab.asStr, zab.asBool]; unfold zdm
 cases hp : zq1 s [45] with
 | true =>
  simp only [if_true]; rw [zea (by simp; omega), zaa]
  simp [zab.asStr]
 | false => simp
theorem zzfw {n : Int} (h0 : -9223372036854775808 <= n) (h1 : n < 9223372036854775808) : pvC C13 F 98 [.int .i64 n] t = some (.str (zi6 n)) := by
 have hg : C13.prims.get 98 = some (zks z2x) := by kernel_rfl
 refine zyj hg fun H => ?_
 unfold z2x; simp only []; rw [zdi.2 h0, za7.2 h1]; rfl
theorem z1e {n : Int} (h0 : -9223372036854775808 <= n) (h1 : n < 9223372036854775808) : (zi6 n).length <= 21 := by
 by_cases h : n < 0
 ·obtain ⟨u, rfl⟩ : ∃ u : Nat, n = -(u : Int) := ⟨n.natAbs, by omega⟩
  rw [zwi (by omega)]
  have := zja (u := u) (k := 20) (by decide) (by rw [show (10 : Nat) ^ 20 = 100000000000000000000 by decide]; omega)
  simp; omega
 ·obtain ⟨u, rfl⟩ : ∃ u : Nat, n = (u : Int) := ⟨n.toNat, by omega⟩
  rw [zp8]; have := zja (u := u) (k := 20) (by decide) (by rw [show (10 : Nat) ^ 20 = 100000000000000000000 by decide]; omega)
  omega
theorem zsi {n : Int} (h0 : -9223372036854775808 <= n) (h1 : n < 9223372036854775808) : pvC C13 F 59 [.int .i64 n] t = some (.str (zdm (zi6 n))) := by
 have := z1e h0 h1
 refine zbd.2 (w59 _ ?_)
 simp only [t59, wpT, q98, zzfw h0 h1, zaa, zab.asStr, q95, zvi (s := zi6 n) (by omega)]
 first | exact ⟨rfl, rfl⟩ | exact ⟨trivial, trivial⟩ | exact ⟨rfl, trivial⟩
def zj1 (f : ze2) : List Nat := zoy f.n.neg f.n.limbs ++ (if znv f.d then [] else 47 :: zoy f.d.neg f.d.limbs)
theorem zzk {u : Nat} : ∀ {k : Nat}, u < 10 ^ k -> (zgw u).length <= k + 1 := by
 intro k h; have := zja (u := u) (k := k + 1) (by omega) (by rw [Nat.pow_succ]; omega)
 exact this
theorem zjh {neg : Bool} {l : List Nat} (hlt : zau 65536 l) (hl : l.length <= 1024) : (zoy neg l).length <= 10000 := by
 unfold zoy intN; have h1 := zfw (B := 65536) (by decide) hlt
 have h2 : (65536 : Nat) ^ l.length <= 10 ^ (5 * l.length) := by
  rw [Nat.pow_mul]; exact Nat.pow_le_pow_left (by decide) _
 have := zzk (u := val 65536 l) (k := 5 * l.length) (by omega)
 rw [yah]; have : (if neg = true then [45] else ([] : List Nat)).length <= 1 := by cases neg <;> simp
 omega
theorem znk {f : ze2} (h : zg0 f = true) : zd2 f.n.neg f.n.limbs = true /\ zd2 f.d.neg f.d.limbs = true /\ f.n.limbs.length <= 1024 /\ f.d.limbs.length <= 1024 := by
 unfold zg0 at h; simp only [yac, decide_eq_true_eq] at h; obtain ⟨⟨⟨⟨⟨⟨h1, h2⟩, h3⟩, h4⟩, _⟩, _⟩, _⟩ := h
 exact ⟨h3, h4, by omega, by omega⟩
theorem zwo {f : ze2} (hf : f.fit) (h : zg0 f = true) : (zj1 f).length <= 20001 := by
 obtain ⟨_, _, h3, h4⟩ := znk h
 have a := zjh (neg := f.n.neg) hf.2.1 h3
 have b := zjh (neg := f.d.neg) hf.2.2 h4
 unfold zj1; rw [yah]; split
 ·simp; omega
 ·simp; omega
theorem zqb {f : ze2} {u v : zab} (hu : RSl t 1 (zoc f.n.limbs) u) (hv : RSl t 1 (zoc f.d.limbs) v) (hf : ze2.fit f) : pvC C13 F 92 [.agg [.bool f.n.neg, u, .bool f.d.neg, v]] t = some (if zg0 f then .tup [.str (zj1 f), .int .i64 0] else .tup [.str [], .int .i64 2]) := by
 refine zbd.2 (w92 _ _ _ _ ?_)
 have x0 : ∀ u v, zao 0 (.tup [u, v]) = some u := fun _ _ => rfl
 have x1 : ∀ u v, zao 1 (.tup [u, v]) = some v := fun _ _ => rfl
 simp only [t92, wpT, q91, zu5 hu hv hf, zaa, zab.asBool]
 cases hval : zg0 f with
 | false => simp
 | true =>
  obtain ⟨h1, h2, h3, h4⟩ := znk hval
  have a := zjh (neg := f.n.neg) hf.2.1 h3
  have b := zjh (neg := f.d.neg) hf.2.2 h4
  have c1 : pvC C13 F 118 [.agg [.bool f.n.neg, u, .bool f.d.neg, v]] t = some (.bool (znv f.d)) := by
   refine zbd.2 (w118 _ _ _ _ ?_)
   simp only [t118, wpT, q149, zt0 hv, zaa, zab.asBool]; first | exact ⟨rfl, rfl⟩ | exact ⟨trivial, trivial⟩ | exact ⟨rfl, trivial⟩
  simp only [Bool.not_true, yar, if_false, q117, z49 hu hf.2.1 h1, zaa, x0, x1, zab.asStr, zag, if_true, q118, c1, zab.asBool]; unfold zj1
  cases hone : znv f.d with
  | true => simp
  | false =>
   simp only [ybm, if_true, z49 hv hf.2.2 h2, zaa, x0, x1, zab.asStr, zag]; rw [zea (by simp; omega), zaa]
   simp only [zab.asStr, zaa]; rw [zea (by simp; omega), zaa]
   simp [zab.asStr]
theorem zqc {f : ze2} {u v : zab} (hu : RSl t 1 (zoc f.n.limbs) u) (hv : RSl t 1 (zoc f.d.limbs) v) (hf : ze2.fit f) (hval : zg0 f = true) : pvC C13 F 57 [.agg [.bool f.n.neg, u, .bool f.d.neg, v]] t = some (.str (zdm (zj1 f))) := by
 have := zwo hf hval
 refine zbd.2 (w57 _ _ _ _ ?_)
 have x0 : ∀ u v, zao 0 (.tup [u, v]) = some u := fun _ _ => rfl
 have x1 : ∀ u v, zao 1 (.tup [u, v]) = some v := fun _ _ => rfl
 simp only [t57, wpT, q92, zqb hu hv hf, hval, if_true, zaa, x0, x1, zab.asStr, zag, q95, zvi (s := zj1 f) (by omega)]
 first | exact ⟨rfl, rfl⟩ | exact ⟨trivial, trivial⟩ | exact ⟨rfl, trivial⟩
def zr9 (f : ze2) : Bool := decide (f.n.limbs.length <= 42) && decide (f.d.limbs.length <= 42) && zg0 f && decide ((if zq1 (zj1 f) [45] then (zj1 f).drop 1 else zj1 f).length <= 200)
theorem zoa {f : ze2} {u v : zab} (hu : RSl t 1 (zoc f.n.limbs) u) (hv : RSl t 1 (zoc f.d.limbs) v) (hf : ze2.fit f) : pvC C13 F 53 [.agg [.bool f.n.neg, u, .bool f.d.neg, v]] t = some (.bool (zr9 f)) := by
 refine zbd.2 (w53 _ _ _ _ ?_)
 have x0 : ∀ u v, zao 0 (.tup [u, v]) = some u := fun _ _ => rfl
 have x1 : ∀ u v, zao 1 (.tup [u, v]) = some v := fun _ _ => rfl
 simp only [t53, wpT, hu.len, hv.len, zot, zaa, zag, za7]; unfold zr9; by_cases h1 : f.n.limbs.length <= 42
 ·rw [if_neg (by omega)]
  by_cases h2 : f.d.limbs.length <= 42
  ·rw [if_neg (by omega)]
   simp only [q91, zu5 hu hv hf, zaa, zab.asBool]
   cases hval : zg0 f with
   | false => simp
   | true =>
    simp only [Bool.not_true, yar, if_false, q92, zqb hu hv hf, hval, if_true, zaa, x0, x1, zab.asStr, zag, zew, q93, zs7, zll]; simp [h1, h2, zzf1]
    constructor <;> intro h <;> omega
  ·rw [if_pos (by omega)]; simp [h2]
 ·rw [if_pos (by omega)]; simp [h1]
def zov (f : ze2) : Bool := !f.n.neg && !f.d.neg && decide (f.n.limbs.length + f.d.limbs.length = 0)
theorem zxm {f : ze2} {u v : zab} (hu : RSl t 1 (zoc f.n.limbs) u) (hv : RSl t 1 (zoc f.d.limbs) v) (hf : f.ok) : pvC C13 F 54 [.agg [.bool f.n.neg, u, .bool f.d.neg, v]] t = some (.bool (zov f)) := by
 unfold ze2.ok zq2 at hf; refine zbd.2 (w54 _ _ _ _ ?_)
 simp only [t54, wpT, hu.len, hv.len, zot, zaa, zag]; unfold zov; rw [wrap_i64 (by omega) (by omega), zy4]
 have e : decide ((f.n.limbs.length : Int) + (f.d.limbs.length : Int) = 0) = decide (f.n.limbs.length + f.d.limbs.length = 0) := by
  by_cases h : f.n.limbs.length + f.d.limbs.length = 0
  ·rw [decide_eq_true h, decide_eq_true (by omega)]
  ·rw [decide_eq_false h, decide_eq_false (by omega)]
 rw [e]
 cases f.n.neg <;> cases f.d.neg <;> simp
theorem zzby {n : Int} : pvC C13 F 55 [.int .i64 n] t = some (.bool (decide (0 <= n) && decide (n < 65536))) := by
 refine zbd.2 (w55 _ ?_)
 simp only [t55, wpT, zdi]; by_cases h : 0 <= n
 ·rw [if_pos h]; simp [h, zzf0]
 ·rw [if_neg h]; simp [h]
def zj9 (v : z4h) : Bool :=
 if v.kind = 2 \/ v.kind = 3 then decide (v.i = 0) && zr9 v.f
 else if v.kind = 1 then zov v.f && (decide (v.i = 0) || decide (v.i = 1))
 else if v.kind = 4 then zov v.f && (decide (0 <= v.i) && decide (v.i < 65536))
 else if v.kind = 5 \/ v.kind = 6 then zov v.f && (decide (-1048576 <= v.i) && decide (v.i <= 1048576))
 else false
theorem zmp {a : z4h} {u v : zab} (hu : RSl t 1 (zoc a.f.n.limbs) u) (hv : RSl t 1 (zoc a.f.d.limbs) v) (hf : ze2.fit a.f) : pvC C13 F 27 [.agg [.int .u8 a.kind, .bool a.f.n.neg, u, .bool a.f.d.neg, v, .int .i64 a.i]] t = some (.bool (zj9 a)) := by
 refine zbd.2 (w27 _ _ _ _ _ _ ?_)
 simp only [t27, wpT, q53, zoa hu hv hf, q54, zxm hu hv hf.1, q55, zzby, zaa, zab.asBool]; unfold zj9; have kk : ∀ j : Int, iEq (a.kind : Int) j = decide ((a.kind : Int) = j) := fun j => zy4
 simp only [kk]; by_cases k2 : a.kind = 2
 ·have e : (a.kind : Int) = 2 := by omega
  by_cases h0 : a.i = 0 <;> simp [e, k2, h0, zy4]
 by_cases k3 : a.kind = 3
 ·have e : (a.kind : Int) = 3 := by omega
  by_cases h0 : a.i = 0 <;> simp [e, k3, h0, zy4]
 have e2 : ¬ (a.kind : Int) = 2 := by omega
 have e3 : ¬ (a.kind : Int) = 3 := by omega
 by_cases k1 : a.kind = 1
 ·have e : (a.kind : Int) = 1 := by omega
  cases zov a.f <;> by_cases h0 : a.i = 0 <;> simp [e, k1, h0, zy4]
 have e1 : ¬ (a.kind : Int) = 1 := by omega
 by_cases k4 : a.kind = 4
 ·have e : (a.kind : Int) = 4 := by omega
  cases zov a.f <;> simp [e, k4]
 have e4 : ¬ (a.kind : Int) = 4 := by omega
 by_cases k5 : a.kind = 5
 ·have e : (a.kind : Int) = 5 := by omega
  cases zov a.f <;> by_cases h0 : (-1048576 : Int) <= a.i <;> simp [e, k5, h0, zzf1]
 have e5 : ¬ (a.kind : Int) = 5 := by omega
 by_cases k6 : a.kind = 6
 ·have e : (a.kind : Int) = 6 := by omega
  cases zov a.f <;> by_cases h0 : (-1048576 : Int) <= a.i <;> simp [e, k6, h0, zzf1]
 have e6 : ¬ (a.kind : Int) = 6 := by omega
 simp [e1, e2, e3, e4, e5, e6, k1, k2, k3, k4, k5, k6]
end Go.Proofs
namespace Go.Proofs
open Go Go.Am
variable [zc6]
variable {t : Tr zam}
def zix (date : List Nat) (v : z4h) : List Nat :=
 if v.kind = 1 then (if v.i = 1 then [116, 114, 117, 101] else [102, 97, 108, 115, 101])
 else if v.kind = 2 then zdm (zj1 v.f)
 else if v.kind = 3 then [109, 111, 110, 101, 121, 32] ++ zdm (zj1 v.f)
 else if v.kind = 4 then date
 else if v.kind = 5 then zdm (zi6 v.i) ++ [32, 100, 97, 121, 115]
 else if v.kind = 6 then zdm (zi6 v.i) ++ [32, 109, 111, 110, 116, 104, 115]
 else []
theorem zpc (s : List Nat) : (zdm s).length <= s.length + 6 := by
 unfold zdm; split
 ·rw [yah, yck]
  show 6 + (s.length - 1) <= _
  omega
 ·omega
theorem ztm {v : z4h} (h : zj9 v = true) (hk : v.kind = 2 \/ v.kind = 3) : zg0 v.f = true := by
 unfold zj9 at h; rw [if_pos hk] at h; simp only [yac] at h; have := h.2
 unfold zr9 at this; simp only [yac] at this; exact this.1.2
theorem zu4 {a : z4h} {u v : zab} {date : List Nat} (hu : RSl t 1 (zoc a.f.n.limbs) u) (hv : RSl t 1 (zoc a.f.d.limbs) v) (hf : z4h.fit a) (hp : zj9 a = true) (hd : a.kind = 4 -> pvC C13 F 58 [.int .i64 a.i] t = some (.str date)) : pvC C13 F 28 [.agg [.int .u8 a.kind, .bool a.f.n.neg, u, .bool a.f.d.neg, v, .int .i64 a.i]] t = some (.str (zix date a)) := by
 obtain ⟨_, hff, hi1, hi2⟩ := hf
 have hil := z1e hi1 hi2
 have hsl := zpc (zi6 a.i)
 have kk : ∀ j : Int, iEq (a.kind : Int) j = decide ((a.kind : Int) = j) := fun j => zy4
 refine zbd.2 (w28 _ _ _ _ _ _ ?_)
 simp only [t28, wpT, kk]; unfold zix; by_cases k1 : a.kind = 1
 ·have e : (a.kind : Int) = 1 := by omega
  have hb : pvC C13 F 56 [.bool (iEq a.i 1)] t = some (.str (if a.i = 1 then [116, 114, 117, 101] else [102, 97, 108, 115, 101])) := by
   refine zbd.2 (w56 _ ?_)
   have h94 : pvC C13 F 94 [.bool (iEq a.i 1)] t = some (.str (if a.i = 1 then [116, 114, 117, 101] else [102, 97, 108, 115, 101])) := by
    refine zbd.2 (w94 _ ?_)
    by_cases h : a.i = 1 <;> simp [t94, wpT, zy4, h]
   simp only [t56, wpT, q94, h94, zaa, zab.asStr]; first | exact ⟨rfl, rfl⟩ | exact ⟨trivial, trivial⟩ | exact ⟨rfl, trivial⟩
  simp [e, k1, q56, hb, zab.asStr]
 have e1 : ¬ (a.kind : Int) = 1 := by omega
 by_cases k2 : a.kind = 2
 ·have e : (a.kind : Int) = 2 := by omega
  simp [e, k2, q57, zqc hu hv hff (ztm hp (.inl k2)), zab.asStr]
 have e2 : ¬ (a.kind : Int) = 2 := by omega
 by_cases k3 : a.kind = 3
 ·have e : (a.kind : Int) = 3 := by omega
  have hl := zwo hff (ztm hp (.inr k3))
  have hl2 := zpc (zj1 a.f)
  have := zea (a := [109, 111, 110, 101, 121, 32]) (b := zdm (zj1 a.f)) (by simp; omega)
  simp [e, k3, q57, zqc hu hv hff (ztm hp (.inr k3)), zab.asStr, this]
 have e3 : ¬ (a.kind : Int) = 3 := by omega
 by_cases k4 : a.kind = 4
 ·have e : (a.kind : Int) = 4 := by omega
  simp [e, k4, q58, hd k4, zab.asStr]
 have e4 : ¬ (a.kind : Int) = 4 := by omega
 by_cases k5 : a.kind = 5
 ·have e : (a.kind : Int) = 5 := by omega
  have := zea (a := zdm (zi6 a.i)) (b := [32, 100, 97, 121, 115]) (by simp; omega)
  simp [e, k5, q59, zsi hi1 hi2, zab.asStr, this]
 have e5 : ¬ (a.kind : Int) = 5 := by omega
 by_cases k6 : a.kind = 6
 ·have e : (a.kind : Int) = 6 := by omega
  have := zea (a := zdm (zi6 a.i)) (b := [32, 109, 111, 110, 116, 104, 115]) (by simp; omega)
  simp [e, k6, q59, zsi hi1 hi2, zab.asStr, this]
 have e6 : ¬ (a.kind : Int) = 6 := by omega
 simp [e1, e2, e3, e4, e5, e6, k1, k2, k3, k4, k5, k6]
theorem zoe {a : z4h} {u v : zab} {date : List Nat} (hu : RSl t 1 (zoc a.f.n.limbs) u) (hv : RSl t 1 (zoc a.f.d.limbs) v) (hf : z4h.fit a) (hp : zj9 a = true) (hd : a.kind = 4 -> pvC C13 F 58 [.int .i64 a.i] t = some (.str date)) : pvC C13 F 12 [.agg [.int .u8 a.kind, .bool a.f.n.neg, u, .bool a.f.d.neg, v, .int .i64 a.i]] t = some (.tup [.str (zix date a), .int .i64 0]) := by
 refine zbd.2 (w12 _ _ _ _ _ _ ?_)
 simp [t12, wpT, q27, zmp hu hv hf.2.1, hp, zab.asBool, q28, zu4 hu hv hf hp hd, zab.asStr]
end Go.Proofs
namespace Go.Proofs
open Go Go.Am
variable [zc6]
variable {t : Tr zam}
theorem z68 {x n : Nat} (hx : x < 256) (hn : t.get n = none) : ∃ H1, zaz C13 32 1 [(0, .int .u8 (x : Int))] ⟨n, t⟩ = some (.slice n 0 1 1, H1) /\ zkk C13 32 9 ⟨0, H1.t⟩ (.slice n 0 1 1) = some (.str [x]) /\ TLe t H1.t := by
 obtain ⟨H1, c1, c2, c3⟩ := zmy (k := .u8) zzaf rfl ty5 rfl rfl x trivial hn
 exact ⟨H1, c1, z1x zzaf ty9 rfl rfl rfl ty5 rfl (c2.all (cap := 1) (yal _)) (fun y hy => by simp at hy; omega), c3⟩
def zzgf (u : Nat) (s : List Nat) : List Nat := if u = 0 then (if s = [] then [48] else s) else zgw u ++ s
theorem z8z {u : Nat} {s : List Nat} : zzgf (u / 10) ([48 + u % 10] ++ s) = zgw u ++ s := by
 unfold zzgf; by_cases h : u / 10 = 0
 ·rw [if_pos h, if_neg (by simp), zga (by omega), Nat.mod_eq_of_lt (by omega)]
 ·rw [if_neg h, zl1 (u := u) (by omega), yba]
theorem z52 {m : Int} {Q : zay} {F : List Nat} {t0 : Tr zam}
  (hR : ∀ t', TLe t0 t' -> jp 5 25 [.int .i64 m, .str (if m < 0 then [109, 105, 110, 117, 115, 32] ++ F else F)] t' Q) (hF : F.length < 1000) :
  ∀ (k u : Nat) (s : List Nat) (t : Tr zam), u <= k -> s.length < 1000 -> u < 10000000 -> zzgf u s = F -> TLe t0 t -> jp 5 2 [.int .i64 m, .str s, .int .i64 (u : Int)] t Q := by
 have hfin : ∀ (s : List Nat) (t : Tr zam), s ≠ [] -> zzgf 0 s = F -> TLe t0 t -> jp 5 2 [.int .i64 m, .str s, .int .i64 0] t Q := by
  intro s t hs h1 h2; have e : s = F := by unfold zzgf at h1; rw [if_pos rfl, if_neg hs] at h1; exact h1
  subst e; refine j5_2 _ _ _ ?_
  simp only [t5_2, wpT, za7]; rw [if_neg (by omega), if_neg (fun h => hs ((zdb _ _).1 h))]
  have := hR t h2
  by_cases hm : m < 0
  ·rw [if_pos hm] at this ⊢
   rw [zea (by simp; omega), zaa]
   exact this
  ·rw [if_neg hm] at this ⊢
   exact this
 intro k; induction k with
 | zero =>
  intro u s t hu hs hb hf ht; have : u = 0 := by omega
  subst this; by_cases he : s = []
  ·subst he
   refine j5_2 _ _ _ ?_
   simp only [t5_2, wpT, za7]; rw [if_neg (by simp), if_pos ((zdb _ _).2 rfl)]
   intro n hn hbase; have ex : zai .u8 (zai .i64 (48 + Int.tmod ((0 : Nat) : Int) 10)) = ((48 : Nat) : Int) := by decide
   rw [ex]; obtain ⟨H1, g1, g2, g3⟩ := z68 (x := 48) (by decide) hn
   rw [g1, zaa, g2, zaa]; simp only [zab.asStr, zaa]; rw [zea (by simp), zaa]
   simp only [zab.asStr, zaa]; have ey : zai .i64 (Int.tdiv ((0 : Nat) : Int) 10) = 0 := by decide
   rw [ey]; refine hfin _ _ (by simp) ?_ (ht.trans g3)
   rw [<- hf]; rfl
  ·exact hfin s t he hf ht
 | succ k ih =>
  intro u s t hu hs hb hf ht; by_cases h0 : u = 0
  ·subst h0
   exact ih 0 s t (Nat.zero_le _) hs hb hf ht
  refine j5_2 _ _ _ ?_
  simp only [t5_2, wpT, za7]; rw [if_pos (by omega)]
  intro n hn hbase; have e1 : Int.tmod (u : Int) 10 = ((u % 10 : Nat) : Int) := by rw [Int.tmod_eq_emod_of_nonneg (by omega)]; omega
  have e2 : Int.tdiv (u : Int) 10 = ((u / 10 : Nat) : Int) := by rw [Int.tdiv_eq_ediv_of_nonneg (by omega)]; omega
  have ex : zai .u8 (zai .i64 (48 + Int.tmod (u : Int) 10)) = ((48 + u % 10 : Nat) : Int) := by
   rw [e1, wrap_i64 (by omega) (by omega)]
   have : (48 : Int) + ((u % 10 : Nat) : Int) = ((48 + u % 10 : Nat) : Int) := by omega
   rw [this]; have hlt : Nat.blt (48 + u % 10) (kHi .u8) = true := zcz.2 (show 48 + u % 10 < 256 by omega)
   show zai .u8 (Int.ofNat (48 + u % 10)) = _
   unfold zai; simp only [hlt, cond_true]; rfl
  rw [ex]; obtain ⟨H1, g1, g2, g3⟩ := z68 (x := 48 + u % 10) (by omega) hn
  rw [g1, zaa, g2, zaa]; simp only [zab.asStr, zaa]; rw [zea (by simp; omega), zaa]
  simp only [zab.asStr, zaa]; rw [e2, wrap_i64 (by omega) (by omega)]
  have hF2 : zgw u ++ s = F := by rw [<- hf]; unfold zzgf; rw [if_neg h0]
  refine ih (u / 10) ([48 + u % 10] ++ s) _ (by omega) ?_ (by omega) (by rw [z8z]; exact hF2) (ht.trans g3)
  have := congrArg List.length hF2
  rw [yah] at this; have := zuh u
  simp; omega
theorem el22 : zz5 C13 22 50 1 := ⟨⟨_, ty22, rfl, rfl⟩, ⟨_, zzae, rfl, rfl, by decide, by decide⟩⟩
theorem co50 : ∀ z, C13.tys.get 50 = some z -> zdw 50 z = .sz 1 := fun z h => by rw [zzae] at h; cases h; rfl
theorem zze5 {L : List Nat} {x : Nat} (h : x ≠ 0) : (L ++ [x]).getLast? ≠ some 0 := by
 have e0 : (L ++ [x]).getLast? = some x := by simp
 rw [e0]; intro e; cases e; exact h rfl
structure Said (m : Int) (L : List Nat) : Prop where
 val : val 65536 L = m.natAbs
 lt : zau 65536 L
 len : L.length <= 3
 norm : L = [] \/ L.getLast? ≠ some 0
theorem zkx {s : List Nat} (h : ∀ x ∈ s, 48 <= x /\ x < 58) : zq1 s [45] = false := by
 cases hp : zq1 s [45] with
 | false => rfl
 | true =>
  unfold zq1 at hp; simp only [yac] at hp; have := (zdb _ _).1 hp.2
  cases s with
  | nil => simp at this
  | cons a l =>
   simp at this; have := h a (.head _)
   omega
theorem zm2 {s : List Nat} : zq1 (45 :: s) [45] = true := by
 unfold zq1; rw [(zdb _ _).2 (by rfl)]
 simp
def zmm (m : Int) : List Nat := if m < 0 then [109, 105, 110, 117, 115, 32] ++ zgw m.natAbs else zgw m.natAbs
theorem zru {m : Int} : zdm (zi6 m) = zmm m := by
 unfold zmm; by_cases h : m < 0
 ·obtain ⟨u, rfl⟩ : ∃ u : Nat, m = -(u : Int) := ⟨m.natAbs, by omega⟩
  have hu : 0 < u := by omega
  rw [if_pos h, zwi hu]; unfold zdm; rw [if_pos zm2]; simp
 ·obtain ⟨u, rfl⟩ : ∃ u : Nat, m = (u : Int) := ⟨m.toNat, by omega⟩
  rw [if_neg h, zp8]; unfold zdm; rw [zkx (zjw u)]
  simp
theorem z8h {m : Int} {L : List Nat} (h : Said m L) (hb : m.natAbs <= 1048576) : zr9 ⟨⟨decide (m < 0), L⟩, ⟨false, [1]⟩⟩ = true /\ zdm (zj1 ⟨⟨decide (m < 0), L⟩, ⟨false, [1]⟩⟩) = zmm m := by
 have hone : znv ⟨false, [1]⟩ = true := by simp [znv]
 have hfr : zj1 ⟨⟨decide (m < 0), L⟩, ⟨false, [1]⟩⟩ = (if m < 0 then [45] else []) ++ zgw m.natAbs := by
  unfold zj1; rw [if_pos hone]; unfold zoy intN; rw [h.val]; by_cases hm : m < 0 <;> simp [hm]
 have hL : L = [] -> ¬ m < 0 := by
  intro e hm; have := h.val
  rw [e] at this; simp [val] at this
  omega
 have hval : zg0 ⟨⟨decide (m < 0), L⟩, ⟨false, [1]⟩⟩ = true := by
  have hw : zd2 (decide (m < 0)) L = true := by
   unfold zd2; by_cases e : L = []
   ·rw [if_pos e]; simp; have := hL e; omega
   ·rw [if_neg e]
    have h1 := h.len
    have h2 := h.norm.resolve_left e
    simp [h2]; omega
  have h1 := h.len
  unfold zg0; rw [hw, hone]; simp [zd2]
  omega
 have hd : (zgw m.natAbs).length <= 7 := zja (by decide) (by omega)
 constructor
 ·unfold zr9
  rw [hval, hfr]; have h1 := h.len
  by_cases hm : m < 0
  ·rw [if_pos hm]
   rw [if_pos (show zq1 ([45] ++ zgw m.natAbs) [45] = true from zm2)]
   simp; omega
  ·rw [if_neg hm]
   rw [if_neg (by rw [List.nil_append, zkx (zjw _)]; simp)]
   simp; omega
 ·rw [hfr]
  unfold zmm zdm; by_cases hm : m < 0
  ·rw [if_pos hm, if_pos (show zq1 ([45] ++ zgw m.natAbs) [45] = true from zm2), if_pos hm]
   simp
  ·rw [if_neg hm, if_neg (by rw [List.nil_append, zkx (zjw _)]; simp), if_neg hm]
   simp
theorem zju (s : List Nat) : zhk s s = true := (zdb s s).2 rfl
theorem z3i {m : Int} {L : List Nat} {c1 c3 : zab} {t0 : Tr zam} {Q : zay} (h : Said m L) (hb : m.natAbs <= 1048576) (h1 : RSl t 1 (zas .u16 L) c1) (h3 : RSl t 1 (zas .u16 [1]) c3) (hQ : Q (.bool true) t) :
  jp 5 6 [.int .i64 m, .str (zmm m), .int .i64 0, .bool (decide (m < 0)), c1, .bool false, c3] t Q := by
 refine j5_6 _ _ _ _ _ _ _ ?_
 obtain ⟨p1, p2⟩ := z8h h hb
 have hfit : ze2.fit ⟨⟨decide (m < 0), L⟩, ⟨false, [1]⟩⟩ := by
  have := h.len
  exact ⟨⟨by show L.length < _; unfold zq2; omega, by show 1 < _; unfold zq2; omega⟩, h.lt, fun x hx => by simp at hx; omega⟩
 have hz : RSl t 1 (zas .u16 []) .nilslice := ⟨[], .inl ⟨rfl, rfl⟩, zik.2 rfl⟩
 have hfz : ze2.fit ⟨⟨false, []⟩, ⟨false, []⟩⟩ := ⟨⟨by show 0 < _; decide, by show 0 < _; decide⟩, fun x hx => (by cases hx), fun x hx => (by cases hx)⟩
 have v2 := zoe (t := t) (a := ⟨2, ⟨⟨decide (m < 0), L⟩, ⟨false, [1]⟩⟩, 0⟩) (date := []) h1 h3 ⟨by show 2 < 256; omega, hfit, by show (_ : Int) <= 0; omega, by show (0 : Int) < _; omega⟩ (by unfold zj9; rw [if_pos (.inl rfl), p1]; rfl) (fun e => by cases e)
 have v3 := zoe (t := t) (a := ⟨3, ⟨⟨decide (m < 0), L⟩, ⟨false, [1]⟩⟩, 0⟩) (date := []) h1 h3 ⟨by show 3 < 256; omega, hfit, by show (_ : Int) <= 0; omega, by show (0 : Int) < _; omega⟩ (by unfold zj9; rw [if_pos (.inr rfl), p1]; rfl) (fun e => by cases e)
 have hz0 : zov ⟨⟨false, []⟩, ⟨false, []⟩⟩ = true := by simp [zov]
 have hpi : (decide (-1048576 <= m) && decide (m <= 1048576)) = true := by simp; omega
 have v5 := zoe (t := t) (a := ⟨5, ⟨⟨false, []⟩, ⟨false, []⟩⟩, m⟩) (date := []) hz hz ⟨by show 5 < 256; omega, hfz, by show (_ : Int) <= m; omega, by show m < _; omega⟩ (by unfold zj9; rw [if_neg (by simp), if_neg (by simp), if_neg (by simp), if_pos (.inl rfl), hz0, hpi]; rfl) (fun e => by cases e)
 have v6 := zoe (t := t) (a := ⟨6, ⟨⟨false, []⟩, ⟨false, []⟩⟩, m⟩) (date := []) hz hz ⟨by show 6 < 256; omega, hfz, by show (_ : Int) <= m; omega, by show m < _; omega⟩ (by unfold zj9; rw [if_neg (by simp), if_neg (by simp), if_neg (by simp), if_pos (.inr rfl), hz0, hpi]; rfl) (fun e => by cases e)
 have n2 : zix [] ⟨2, ⟨⟨decide (m < 0), L⟩, ⟨false, [1]⟩⟩, 0⟩ = zmm m := by unfold zix; simp [p2]
 have n3 : zix [] ⟨3, ⟨⟨decide (m < 0), L⟩, ⟨false, [1]⟩⟩, 0⟩ = [109, 111, 110, 101, 121, 32] ++ zmm m := by unfold zix; simp [p2]
 have n5 : zix [] ⟨5, ⟨⟨false, []⟩, ⟨false, []⟩⟩, m⟩ = zmm m ++ [32, 100, 97, 121, 115] := by unfold zix; simp [zru]
 have n6 : zix [] ⟨6, ⟨⟨false, []⟩, ⟨false, []⟩⟩, m⟩ = zmm m ++ [32, 109, 111, 110, 116, 104, 115] := by unfold zix; simp [zru]
 rw [n2] at v2; rw [n3] at v3; rw [n5] at v5; rw [n6] at v6; have hl : (zmm m).length <= 20 := by
  have hd : (zgw m.natAbs).length <= 7 := zja (by decide) (by omega)
  unfold zmm; split
  ·simp; omega
  ·omega
 have x0 : ∀ u v, zao 0 (.tup [u, v]) = some u := fun _ _ => rfl
 have x1 : ∀ u v, zao 1 (.tup [u, v]) = some v := fun _ _ => rfl
 simp only [t5_6, wpT, za7]; rw [if_neg (by omega), if_pos trivial, q12]
 rw [show pvC C13 F 12 [.agg [.int .u8 2, .bool (decide (m < 0)), c1, .bool false, c3, .int .i64 0]] t = _ from v2, zaa]
 simp only [x0, x1, zaa, zab.asStr, zag, if_true, q12]; rw [show pvC C13 F 12 [.agg [.int .u8 3, .bool (decide (m < 0)), c1, .bool false, c3, .int .i64 0]] t = _ from v3, zaa]
 simp only [x0, x1, zaa, zab.asStr, zag, if_true, q12]; rw [show pvC C13 F 12 [.agg [.int .u8 5, .bool false, .nilslice, .bool false, .nilslice, .int .i64 m]] t = _ from v5, zaa]; simp only [x0, x1, zaa, zab.asStr, zag, if_true, q12]
 rw [show pvC C13 F 12 [.agg [.int .u8 6, .bool false, .nilslice, .bool false, .nilslice, .int .i64 m]] t = _ from v6, zaa]; simp only [x0, x1, zaa, zab.asStr, zag]; have ew : iEq (zai .i64 ((zai .i64 ((zai .i64 ((0 : Int) + 0)) + 0)) + 0)) 0 = true := by decide
 rw [ew, if_pos rfl, zju, if_pos rfl, zea (by simp; omega), zaa]
 simp only [zab.asStr, zaa]; rw [zju, if_pos rfl, zea (by simp; omega), zaa]
 simp only [zab.asStr, zaa]; rw [zju, if_pos rfl, zea (by simp; omega), zaa]
 simp only [zab.asStr, zaa]; rw [zju]; exact hQ
theorem z27 {m : Int} {c3 : zab} {Q : zay} {t0 : Tr zam} (hb : m.natAbs <= 1048576) (hQ : ∀ t', TLe t0 t' -> Q (.bool true) t') : ∀ (k u : Nat) (L : List Nat) (c1 : zab) (tf t : Tr zam), u < 65536 ^ k -> k + L.length <= 3 -> u <= 1048576 -> val 65536 L + 65536 ^ L.length * u = m.natAbs -> zau 65536 L -> (u = 0 -> L = [] \/ L.getLast? ≠ some 0) →
   TLe t0 tf -> TLe tf t -> zb3 (.sz 1) C13.base tf t 1 (zas .u16 L) c1 -> RSl tf 1 (zas .u16 [1]) c3 -> jp 5 6 [.int .i64 m, .str (zmm m), .int .i64 (u : Int), .bool (decide (m < 0)), c1, .bool false, c3] t Q := by
 have fin : ∀ (L : List Nat) (c1 : zab) (tf t : Tr zam), L.length <= 3 -> val 65536 L = m.natAbs -> zau 65536 L -> (L = [] \/ L.getLast? ≠ some 0) -> TLe t0 tf -> TLe tf t -> zb3 (.sz 1) C13.base tf t 1 (zas .u16 L) c1 -> RSl tf 1 (zas .u16 [1]) c3 →
   jp 5 6 [.int .i64 m, .str (zmm m), .int .i64 0, .bool (decide (m < 0)), c1, .bool false, c3] t Q := fun L c1 tf t h1 h2 h3 h4 h5 h6 h7 h8 =>
  z3i (t0 := t0) ⟨h2, h3, h1, h4⟩ hb (h7.read rfl h6) (h8.mono h6) (hQ _ (h5.trans h6))
 intro k; induction k with
 | zero =>
  intro u L c1 tf t h1 h2 h3 h4 h5 h6 h7 h8 h9 h10; have : u = 0 := by simpa using h1
  subst this; exact fin L c1 tf t (by omega) (by simpa using h4) h5 (h6 rfl) h7 h8 h9 h10
 | succ k ih =>
  intro u L c1 tf t h1 h2 h3 h4 h5 h6 h7 h8 h9 h10; by_cases h0 : u = 0
  ·subst h0
   exact fin L c1 tf t (by omega) (by simpa using h4) h5 (h6 rfl) h7 h8 h9 h10
  refine j5_6 _ _ _ _ _ _ _ ?_
  simp only [t5_6, wpT, za7]; rw [if_pos (by omega)]
  intro n hn hbase; have e1 : zai .u16 (u : Int) = ((u % 65536 : Nat) : Int) := by rw [zu1]; omega
  have e2 : Int.fdiv (u : Int) 65536 = ((u / 65536 : Nat) : Int) := by
   rw [Int.fdiv_eq_ediv_of_nonneg _ (by omega)]; omega
  rw [e1, e2]; obtain ⟨H1, c1', c2, c3'⟩ := zmy (k := .u16) ty22 rfl zzae rfl rfl (u % 65536) trivial hn
  rw [c1', zaa]; intro n2 hn2 hbase2; have b3 : zb3 (.sz 1) C13.base tf H1.t 1 (zas .u16 L) c1 := h9.keep' fun b hb => by
   obtain ⟨_, _, y, hy⟩ := h9.none hb
   rw [c3' _ _ hy, hy]
  obtain ⟨t4, d1, d2, d3, d4⟩ := zkz el22 co50 b3 (c2.all (cap := 1) (yal _)) (by simp) (by simp; omega) hn2 hbase2 (h8.trans c3')
  simp only [List.length_singleton] at d1 d2; simp only []; rw [d1, zaa, if_pos (by rfl)]
  have hp := ybi u 65536
  refine ih (u / 65536) (L ++ [u % 65536]) _ tf t4 ?_ (by simp; omega) (by omega) ?_ ?_ ?_ h7 d3 (by simpa using d2) h10
  ·rw [Nat.pow_succ] at h1
   exact ybv (by rw [yai]; exact h1)
  ·rw [zeh, yah, <- h4]
   simp only [val, yao, yay, yax, Nat.mul_zero, ybu, Nat.pow_succ]; rw [Nat.add_assoc, yak, <- yan]; congr 2
   omega
  ·exact zqs h5 fun x hx => by simp at hx; omega
  ·intro e
   exact .inr (zze5 (by omega))
theorem zzav {n : Int} (h0 : -9223372036854775808 <= n) (h1 : n < 9223372036854775808) : Wc C13 F 5 [.int .i64 n] t fun v t' => v = .bool true /\ TLe t t' := by
 have key : ∀ m : Int, m.natAbs <= 1048576 -> jp 5 11 [.int .i64 m] t fun v t' => v = .bool true /\ TLe t t' := by
  intro m hm; have e : (bif iLt m (zai .i64 (0 - m)) then (zai .i64 (0 - m)) else m) = (m.natAbs : Int) := by
   rw [wrap_i64 (by omega) (by omega), zak]
   by_cases h : m < 0 - m
   ·rw [if_pos (za7.2 h)]; omega
   ·rw [if_neg (fun e => h (za7.1 e))]; omega
  refine j5_11 _ ?_
  simp only [t5_11, wpT]; rw [e]; have hd : (zgw m.natAbs).length <= 7 := zja (by decide) (by omega)
  refine z52 (F := zgw m.natAbs) (t0 := t) ?_ (by omega) m.natAbs m.natAbs [] t (yal _) (by simp) (by omega) ?_ (TLe.refl _)
  ·intro t' ht'
   refine j5_25 _ _ ?_
   simp only [t5_25, wpT, if_true]; intro n2 hn2 hbase2; obtain ⟨H1, c1, c2, c3⟩ := zmy (k := .u16) ty22 rfl zzae rfl rfl 1 trivial hn2
   rw [show ((1 : Nat) : Int) = 1 from rfl] at c1
   rw [c1, zaa, if_pos (by rfl), if_pos (by rfl), e]
   have hneg : iLt m 0 = decide (m < 0) := zzf0
   rw [hneg]; have hr : RSl H1.t 1 (zas .u16 [1]) (.slice n2 0 1 1) := c2.all (cap := 1) (yal _)
   exact z27 (t0 := t) hm (fun t' h => ⟨rfl, h⟩) 2 m.natAbs [] .nilslice H1.t H1.t (by omega) (by simp) hm (by simp [val]) (fun x hx => by cases hx) (fun _ => .inl rfl) (ht'.trans c3) (TLe.refl _) zps hr
  ·unfold zzgf
   by_cases hz : m.natAbs = 0
   ·rw [if_pos hz, if_pos rfl, hz, zga (by omega)]
   ·rw [if_neg hz, ybe]
 refine w5 _ ?_
 simp only [t5, wpT, q6]; have hg : C13.prims.get 6 = some (zks zzbb) := by kernel_rfl
 rw [show pvC C13 F 6 [] t = some (.bool true) from zyj hg fun H => rfl, zaa]
 simp only [zab.asBool, zaa, Bool.not_true, yar, if_false, za7]; have land : ∀ x : Nat, Nat.land x 1048575 <= 1048575 := fun x => Nat.and_le_right
 by_cases ha : n < -1048576
 ·rw [if_pos ha]
  have : ∃ x : Nat, zzb3 .i64 n 1048575 = some (.int .i64 (x : Int)) /\ x <= 1048575 := by
   obtain ⟨k, rfl⟩ : ∃ k : Nat, n = Int.negSucc k := ⟨(-n - 1).toNat, by rw [Int.negSucc_eq]; omega⟩
   exact ⟨_, rfl, land _⟩
  obtain ⟨x, hx, hx2⟩ := this
  rw [hx, zaa]; simp only [zag, zaa]; exact key x (by omega)
 ·rw [if_neg ha]
  by_cases hb : 1048576 < n
  ·rw [if_pos hb]
   obtain ⟨k, rfl⟩ : ∃ k : Nat, n = (k : Int) := ⟨n.toNat, by omega⟩
   have : zzb3 .i64 (k : Int) 1048575 = some (.int .i64 ((Nat.land k 1048575 : Nat) : Int)) := by
    rw [show (1048575 : Int) = ((1048575 : Nat) : Int) from rfl, zt6, zdj (show k < 9223372036854775808 by omega) (by decide)]
   rw [this, zaa]; simp only [zag, zaa]; have := land k
   exact key _ (by omega)
  ·rw [if_neg hb]
   exact key n (by omega)
end Go.Proofs
namespace Go.Am
open Go Go.RowKit
def z22 {α : Type} (f : Nat -> Option α) : Nat -> Tr α
 | 0 => .leaf
 | n + 1 => match f n with
  | some v => (z22 f n).set n v
  | none => z22 f n
theorem zlw {α : Type} (f : Nat -> Option α) : ∀ (n a : Nat), (z22 f n).get a = if a < n then f a else none := by
 intro n; induction n with
 | zero => intro a; rw [if_neg (by omega)]; exact Tr.get_leaf _
 | succ n ih =>
  intro a; unfold z22
  cases hf : f n with
  | some v =>
   simp only []; rw [Tr.get_set, ih]; by_cases h : a = n
   ·subst h; rw [if_pos rfl, if_pos (by omega), hf]
   ·rw [if_neg h]
    by_cases h2 : a < n
    ·rw [if_pos h2, if_pos (by omega)]
    ·rw [if_neg h2, if_neg (by omega)]
  | none =>
   simp only []; rw [ih]; by_cases h : a = n
   ·subst h; rw [if_neg (by omega), if_pos (by omega), hf]
   ·by_cases h2 : a < n
    ·rw [if_pos h2, if_pos (by omega)]
    ·rw [if_neg h2, if_neg (by omega)]
def absV (N : Nat) : Value -> Option zab
 | .bool b => some (.bool b)
 | .int k n => some (.int k n)
 | .string s => some (.str (zbm s))
 | .slice none 0 0 => some .nilslice
 | .slice (some _) 0 0 => some (.slice 0 0 0 0)
 | .slice (some ⟨b, off, none⟩) len cap => if b < N then some (.slice (256 + b) off len cap) else none
 | _ => none
def absB (N : Nat) : Obj -> Option zam
 | .cells cs _ _ => some (.cells (z22 (fun j => (cs[j]?).bind (absV N)) cs.size) cs.size none)
 | _ => none
def z97 (w : World) : Tr zam := z22 (fun a => if a < 256 then (w.heap[a]?).bind (absB w.heap.size) else (w.heap[a - 256]?).bind (absB w.heap.size)) (256 + w.heap.size)
def muW (w : World) : Mu := ⟨fun a => if a < 256 then some ⟨a, true, 0, 0, true⟩ else if a < 256 + w.heap.size then some ⟨a - 256, true, 0, 0, true⟩ else none, fun _ => none⟩
section
variable {w : World}
theorem zzc2 {v : Value} {a : zab} (h : absV w.heap.size v = some a) : zal (muW w) a v := by
 unfold absV at h; split at h
 ·cases h; rw [zal]
 ·cases h; rw [zal]
 ·cases h; rw [zal]; exact ⟨_, rfl, rfl⟩
 ·cases h; rw [zal]
 ·cases h; rw [zal]; exact .inr ⟨rfl, rfl, rfl, _, _, rfl, .inl ⟨rfl, rfl⟩⟩
 ·split at h
  ·rename_i hb
   cases h; rename_i b off len cap _; rw [zal]; refine .inl ⟨⟨b, true, 0, 0, true⟩, cap, ?_, rfl, yal _, fun _ => rfl, fun h => by cases h⟩
   show (if 256 + b < 256 then some (⟨256 + b, true, 0, 0, true⟩ : BI) else if 256 + b < 256 + w.heap.size then some ⟨256 + b - 256, true, 0, 0, true⟩ else none) = _
   rw [if_neg (by omega), if_pos (by omega), show 256 + b - 256 = b by omega]
  ·cases h
 ·cases h
theorem z11 {o : Obj} {x : zam} (h : absB w.heap.size o = some x) (b : Nat) : zmh (muW w) ⟨b, true, 0, 0, true⟩ x o /\ x.asLoop = none /\ x.asDeferred = none := by
 cases o <;> first | (cases h; done) | skip
 rename_i cs elem fr
 cases h; refine ⟨⟨cs, elem, fr, rfl, yal _, .inl rfl, fun j v hv => ?_, rfl⟩, rfl, rfl⟩
 rw [zlw] at hv; split at hv
 case isFalse => cases hv
 rename_i hj
 cases hc : cs[j]? with
 | none => rw [hc] at hv; cases hv
 | some u =>
  rw [hc] at hv; exact ⟨hj, u, rfl, zzc2 hv⟩
theorem hrelW : za3 (256 + w.heap.size) w.heap.size (muW w) ⟨256 + w.heap.size, z97 w⟩ w := by
 have hget : ∀ a x, (z97 w).get a = some x -> ∃ b o, b < w.heap.size /\ w.heap[b]? = some o /\ absB w.heap.size o = some x /\ a < 256 + w.heap.size /\ b = (if a < 256 then a else a - 256) := by
  intro a x hx; unfold z97 at hx; rw [zlw] at hx; split at hx
  case isFalse => cases hx
  rename_i hlt; split at hx
  ·rename_i h
   cases ho : w.heap[a]? with
   | none => rw [ho] at hx; cases hx
   | some o => rw [ho] at hx; exact ⟨a, o, (yaf.1 ho).1, ho, hx, hlt, by rw [if_pos h]⟩
  ·rename_i h
   cases ho : w.heap[a - 256]? with
   | none => rw [ho] at hx; cases hx
   | some o => rw [ho] at hx; exact ⟨a - 256, o, (yaf.1 ho).1, ho, hx, hlt, by rw [if_neg h]⟩
 have hmu : ∀ a, (muW w) a = if a < 256 then some ⟨a, true, 0, 0, true⟩ else if a < 256 + w.heap.size then some ⟨a - 256, true, 0, 0, true⟩ else none := fun _ => rfl
 have big : ∀ a, 256 + w.heap.size <= a -> (muW w) a = none := fun a h => by rw [hmu, if_neg (by omega), if_neg (by omega)]
 have same : ∀ a x i, (z97 w).get a = some x -> (muW w) a = some i -> ∃ o, w.heap[i.b]? = some o /\ i.b < w.heap.size /\ absB w.heap.size o = some x /\ i = ⟨i.b, true, 0, 0, true⟩ := by
  intro a x i hx hi; obtain ⟨b, o, h1, h2, h3, h4, h5⟩ := hget a x hx
  rw [hmu] at hi; split at hi
  ·rename_i h
   cases hi; rw [if_pos h] at h5; subst h5; exact ⟨o, h2, h1, h3, rfl⟩
  ·rename_i h
   rw [if_neg h] at h5; have hi := ybj hi
   have hb : i.b = b := by rw [<- hi, h5]
   refine ⟨o, by rw [hb]; exact h2, by rw [hb]; exact h1, h3, by rw [<- hi]⟩
 refine ⟨by omega, fun g hg => by rw [hmu, if_pos hg], fun a x i _ hx hi => ?_, yal _, yal _, fun a ha => ⟨big a ha, ?_⟩, fun a x i hx hi => ?_, fun a i ha hi => ?_, fun a b x y i j hx _ hi _ ha _ _ => ?_, fun a x t h => by cases h⟩
 ·obtain ⟨o, _, h2, h3, _⟩ := same a x i hx hi
  exact ⟨h2, (z11 h3 0).2⟩
 ·show (z97 w).get a = none
  unfold z97; have ha : 256 + w.heap.size <= a := ha
  rw [zlw, if_neg (by omega)]
 ·obtain ⟨o, h1, _, h3, h4⟩ := same a x i hx hi
  exact ⟨o, h1, by rw [h4]; exact (z11 h3 _).1⟩
 ·rw [big a ha] at hi; cases hi
 ·rw [big a ha] at hi; cases hi
end
end Go.Am
namespace Go.Am
open Go Go.RowKit
def tiles (P : Program) : Nat -> List Field -> Nat -> Bool
 | off, [], n => off == n
 | off, f :: fs, n => f.offset == off && tiles P (off + P.cellsOf f.type) fs n
structure Plain (P : Program) (S : TypeId -> Prop) : Prop where
 part : ∀ t, S t -> match P.underlying t with
  | some .bool => True
  | some (.int _) => True
  | some .string => True
  | some (.slice e) => S e /\ 0 < P.cellsOf e
  | some (.struct fs) => (∀ f ∈ fs.toList, S f.type) /\ tiles P 0 fs.toList (P.cellsOf t) = true
  | _ => False
section
variable {H : Type} {enc : TypeId × Value -> H} {P : Program} {w : World}
end
end Go.Am
namespace Go.Am
open Go Go.RowKit
structure z90 (P : Program) where
 (b i u8 u16 s limbs whole frac val expr exprs row rows table tables dfn dfns clause clauses plan : TypeId)
 hb : P.underlying b = some .bool
 hi : P.underlying i = some (.int .i64)
 hu8 : P.underlying u8 = some (.int .u8)
 hu16 : P.underlying u16 = some (.int .u16)
 hs : P.underlying s = some .string
 hlimbs : P.underlying limbs = some (.slice u16)
 hexprs : P.underlying exprs = some (.slice expr)
 hrows : P.underlying rows = some (.slice row)
 htables : P.underlying tables = some (.slice table)
 hdfns : P.underlying dfns = some (.slice dfn)
 hclauses : P.underlying clauses = some (.slice clause)
 hwhole : ∃ fs, P.underlying whole = some (.struct fs) /\ fs.toList.map (·.type) = [b, limbs]
 hfrac : ∃ fs, P.underlying frac = some (.struct fs) /\ fs.toList.map (·.type) = [whole, whole]
 hval : ∃ fs, P.underlying val = some (.struct fs) /\ fs.toList.map (·.type) = [u8, frac, i]
 hexpr : ∃ fs, P.underlying expr = some (.struct fs) /\ fs.toList.map (·.type) = [u8, s, val, exprs]
 hrow : ∃ fs, P.underlying row = some (.struct fs) /\ fs.toList.map (·.type) = [i, i, i, frac]
 htable : ∃ fs, P.underlying table = some (.struct fs) /\ fs.toList.map (·.type) = [s, b, rows]
 hdfn : ∃ fs, P.underlying dfn = some (.struct fs) /\ fs.toList.map (·.type) = [s, u8, b]
 hclause : ∃ fs, P.underlying clause = some (.struct fs) /\ fs.toList.map (·.type) = [s, s, i, i, i, b, expr, expr]
 hplan : ∃ fs, P.underlying plan = some (.struct fs) /\ fs.toList.map (·.type) = [s, dfns, tables, clauses]
 cu16 : P.cellsOf u16 = 1
 cexpr : P.cellsOf expr = 9
 crow : P.cellsOf row = 7
 ctable : P.cellsOf table = 3
 cdfn : P.cellsOf dfn = 3
 cclause : P.cellsOf clause = 24
 bytes : 1 <= P.bytesOf u16 /\ 1 <= P.bytesOf expr /\ 1 <= P.bytesOf row /\ 1 <= P.bytesOf table /\ 1 <= P.bytesOf dfn /\ 1 <= P.bytesOf clause
section
variable {P : Program} {f : Nat} {t : TypeId} {x : D}
end
namespace z90
section
variable {P : Program} (A : z90 P) {f : Nat} {x : D}
end
end z90
end Go.Am
namespace Go.Am
open Go Go.RowKit Go.Proofs
theorem z2r [zc6] (B N : Nat) : zng Tryz.prog C13 B N zcf := by
 intro f g hg args H v H' hv μ w args' hH hI hl; have hg : z6h.get f = some g := hg
 unfold z6h at hg; rcases zfg hg with ⟨rfl, rfl⟩ | hg
 ·exact zfq hv hH fun hv => zvv hI hv hl
 rcases zfg hg with ⟨rfl, rfl⟩ | hg
 ·exact zfq hv hH fun hv => zvw hI hv hl
 rcases zfg hg with ⟨rfl, rfl⟩ | hg
 ·exact zfq hv hH fun hv => z2u hI hv hl
 ·rw [Tr.get_leaf] at hg; cases hg
theorem sim13 [zc6] (hN : 6 <= zc6.n) : Sim Tryz.prog C13 (256 + zc6.n) zc6.n zcf :=
 ⟨z4z rfl, z1n rfl, z2r _ _, yal _, by kernel_rfl, fun _ _ hb h => h.below hN hb⟩
section
variable {w : World}
theorem zzfj {b : Nat} {y : zam} (h : (z97 w).get b = some y) : b < 256 + w.heap.size := by
 unfold z97 at h; rw [zlw] at h; split at h
 ·assumption
 ·cases h
theorem z2f (hL : zcf w) (f : Nat) (args : List zab) (args' : Array Value) (hp : ∀ [zc6], C13.prims.get f = none) (hl : za9 (muW w) args args'.toList)
  (h : ∀ [zc6], ∃ Q : zay, Wc C13 F f args (z97 w) Q /\ ∀ v t, Q v t -> v = .bool true) (hf : Nat.blt f yo = true := by rfl) :
  Calls Tryz.prog f args' w fun e w' => e = .returned (.bool true) /\ Below w.heap.size w w' := by
 letI : zc6 := ⟨w.heap.size⟩
 obtain ⟨Q, h1, h2⟩ := h
 refine (zzn (H := ⟨256 + w.heap.size, z97 w⟩) (sim13 hL.size) hL zzgi hp (yal _) (fun b y hb => zzfj hb) hrelW hl h1 hf).mono fun e w' ⟨v, v', t', μ', g1, g2, g3, g4, g5⟩ => ?_
 have := h2 v t' g4
 subst this; rw [zal] at g3; exact ⟨by rw [g1, g3], g5⟩
theorem signs5 (hL : zcf w) {n : Int} (h0 : -9223372036854775808 <= n) (h1 : n < 9223372036854775808) :
  Calls Tryz.prog 5 #[.int .i64 n] w fun e w' => e = .returned (.bool true) /\ Below w.heap.size w w' :=
 z2f hL 5 [.int .i64 n] _ (by intro _; kernel_rfl) (.single (by rw [zal])) ⟨_, zzav h0 h1, fun v t h => h.1⟩
end
end Go.Am
namespace Go.Am
open Go Go.RowKit Go.ChangeShapes Go.WideShapes Go.ChangeAt
section
variable {H : Type} {enc : TypeId × Value -> H} {P : Program}
theorem zk5 (hl : laidOutB P = true) {W W' : World} (hb : Below W.heap.size W W') : ∀ {ts : List TypeId} {vs : List Value} {ds : List (DataW H)} {ps : List MemPlace}, (∀ t ∈ ts, P.readableRec t = true /\ t < P.types.size) →
  DataW.TrodAll enc P W 0 (fun _ => true) true ts vs ds ps -> (∀ x ∈ ps, x.block < W.heap.size) -> DataW.TrodAll enc P W' 0 (fun b => decide (b < W.heap.size)) true ts vs ds ps
 | [], [], [], _, _, h, _ => h
 | t :: ts, _ :: _, _ :: _, _, ht, ⟨p, q, h1, h2, e⟩, hs => by
  subst e; exact ⟨p, q, Below.trod hl (ht t (by simp)).1 (ht t (by simp)).2 h1 hb fun x hx => hs x (ycd _ hx),
   zk5 hl hb (fun t ht' => ht t (yas _ ht')) h2 fun x hx => hs x (ybg _ hx), rfl⟩
 | [], _ :: _, _, _, _, h, _ => by simp [DataW.TrodAll] at h
 | [], [], _ :: _, _, _, h, _ => by simp [DataW.TrodAll] at h
 | _ :: _, [], _, _, _, h, _ => by simp [DataW.TrodAll] at h
 | _ :: _, _ :: _, [], _, _, h, _ => by simp [DataW.TrodAll] at h
theorem law_post (hl : laidOutB P = true) {f : Func} {s : ChangeSpec} {tb : TypeId} (hp : ∀ t ∈ f.params.toList, P.readableRec t = true /\ t < P.types.size) (hv : s.vars = []) (hres : f.resultTypes = #[tb]) (htb : P.underlying tb = some .bool)
  {W W' : World} {args : Array Value} {ds gs : List (DataW H)} {before : List MemPlace} (hfn : s.fn H ds = { results := [.lit (.bool true)], args := ds })
  (hW : DataW.Whole enc P f.params.toList s.vars false W args.toList ds gs before) (hb : Below W.heap.size W W') :
  s.post enc P f false true false false W args (.bool true) W' := by
 have hW0 := hW
 obtain ⟨p, q, hA, hV, rfl, hfz, hnd⟩ := hW
 rw [hv] at hV; obtain ⟨rfl, rfl⟩ := trodVars_none hV
 refine ⟨ds, [], p ++ [], [], p, [], hW0, ?_, ?_, ?_, hb.frame _, fun h => by cases h⟩
 ·rw [ybe, hfn, hres]
  exact trodAll_mk1 (shut_bool htb _)
 ·rw [ybe, hfn]
  exact zk5 hl hb hp hA fun x hx => hW0.lt x (by simpa using hx)
 ·rw [ybe, hfn, hv]
  exact rfl
theorem z0o {a : Assume} {C : Checked} {os : Os} {f : FuncId} {fn : Func} {s : ChangeSpec} {conds : List PathCond} {apart fresh handsOn again : Bool} {X : World -> Array Value -> Prop}
  (hX : ∀ (w w' : World) (args : Array Value), w.heap = w'.heap -> X w args -> X w' args)
  (own : ownKnob C.prog.godebug = none) (started : os.Started) (noInit : C.prog.inits.idxOf? f = none) (hfn : C.prog.funcs[f]? = some fn)
  (witness : ∃ (w : World) (tape : Tape) (i : Input), w.os = os /\ (w.forCall tape i).Shaped C.prog /\ i.vars = [] /\ Input.okWide C.prog (w.forCall tape i) .any w.heap.size f i ∧
   ((s.pre enc C.prog fn conds apart (w.forCall tape i).memory i.args /\ X (w.forCall tape i).memory i.args) /\ sizedMet enc C.prog fn (OpenSpec.ofChange s) apart (w.forCall tape i).memory i.args) /\ a.holds C.prog (lone (Frame.enter C.prog f i.args .normal) [] (w.forCall tape i)))
  (contract : ∀ (W : World) (base : Nat) (args : Array Value) (ds gs : List (DataW H)) (before : List MemPlace),
   (∀ (j : Nat) t v, fn.params[j]? = some t -> args[j]? = some v -> Value.okWide C.prog W .any base t v) →
   DataW.Whole enc C.prog fn.params.toList s.vars apart W args.toList ds gs before →
   (DataW.weightsEach C.prog (fn.params.toList ++ s.plain.varTypes C.prog) (ds ++ gs)).all (· <= reachBytes) = true -> X W args -> W.ShapedOpen C.prog →
   Calls C.prog f args W fun e W' => ∃ v, e = .returned v /\ s.post enc C.prog fn apart fresh handsOn again W args v W') :
  ReturnsInHanded a C os f .any (fun w args => (s.pre enc C.prog fn conds apart w args /\ X w args) /\ sizedMet enc C.prog fn (OpenSpec.ofChange s) apart w args) (s.post enc C.prog fn apart fresh handsOn again) := by
 refine returnsInHanded_of_calls own started noInit witness ?_
 intro w tape i _ hsh _ hok hpre _; obtain ⟨_, _, _, fn', hfn', _, _, _, _, hval⟩ := hok
 have e : fn' = fn := ybj (hfn'.symm.trans hfn)
 subst e; obtain ⟨⟨⟨ds, gs, before, hw, hc⟩, hx⟩, hz⟩ := hpre
 have hw' := DataW.Whole.of_heap (w' := w.forCall tape i) (by rfl) hw
 refine (contract (w.forCall tape i) w.heap.size i.args ds gs before hval hw' (hz.weights hw) (hX _ _ _ (by rfl) hx) hsh).mono fun e W' ⟨v, he, hp⟩ => ?_
 subst he; exact ChangeSpec.post_blind hp
variable {w : World} {base : Nat} {spare : Nat -> Bool} {held : Bool} {fuel : Nat} {t e : TypeId} {cs : List Value} {ps : List MemPlace}
theorem zl9 {α : Type} {g : α -> DataW H} {u : α -> Value} {l : List α} {n : Nat} (ht : P.underlying t = some (.array n e)) (hc : P.cellsOf e = 1) (hn : P.cellsOf t = n)
  (h1 : ∀ (m : Nat) (c : List Value) (x : DataW H × List MemPlace) (a : α), DataW.trod enc P w base spare held m e c = some x -> x.1 = g a -> c = [u a])
  (h : DataW.trod enc P w base spare held fuel t cs = some (.agg (l.map g), ps)) : cs = l.map u := by
 obtain ⟨xs, m, _, hx, hlen, hxs, hel⟩ := DataW.trod_array ht h
 simp only [Prod.mk.injEq, DataW.agg.injEq] at hx; have hl : l.length = n := by have := congrArg List.length hx.1; simp [hxs] at this; exact this
 rw [hn] at hlen; refine List.ext_getElem (by rw [hlen, yag, hl]) fun i hi1 hi2 => ?_
 have hi : i < n := by omega
 have := hel i hi
 rw [hc] at this; have hc1 : ((cs.drop (i * 1)).take 1) = [cs[i]] := by
  rw [Nat.mul_one, yam hi1]; rfl
 rw [hc1, yae (by omega)] at this
 have hxi : xs[i].1 = g (l[i]'(by omega)) := by
  have := congrArg (fun z => z[i]?) hx.1
  simp only [yav] at this; rw [yae (by omega), yae (by omega)] at this
  simpa using this.symm
 have := h1 m _ _ _ this hxi
 rw [List.getElem_map]; simpa using this
theorem z0k (he : P.underlying e = some .string) (m : Nat) (c : List Value) (x : DataW H × List MemPlace) (b : List UInt8) (h : DataW.trod enc P w base spare held m e c = some x) (hx : x.1 = .lit (.string b)) : c = [.string ⟨b.toArray⟩] := by
 obtain ⟨s, rfl, rfl, _⟩ := DataW.trod_string he h
 simp at hx; rw [<- hx]
theorem zzbz (he : P.underlying e = some (.int .i64)) (m : Nat) (c : List Value) (x : DataW H × List MemPlace) (n : Int) (h : DataW.trod enc P w base spare held m e c = some x) (hx : x.1 = .lit (.int .i64 n)) : c = [.int .i64 n] := by
 obtain ⟨k, rfl, rfl, _⟩ := DataW.trod_int he h
 simp at hx; rw [hx]
end
theorem joined_of {P : Program} {f : FuncId} {fn : Func} {s : ChangeSpec} {c : OpenClaim}
  (A : (c.wf (OpenSpec.ofChange s) && laidOutB P && mapsRowed P && fn.params.all (P.readableRec ·) && namedTie P c.named s.vars && (c.stops == []) && (P.stops == []) && (c.knobs == []) && (P.stopKnobs == [])) = true)
  (h1 : (c.inPlace == P.inPlace f) = true) (h2 : (c.unfollowed == P.unfollowed f) = true) (h3 : (c.recurses == P.recurses f) = true) (h4 : (c.named == P.varsNamed f) = true)
  (E : ((c.maps == (fn.params.toList ++ s.plain.varTypes P).any (P.mapsRec ·)) && (c.ifaces == (fn.params.toList ++ s.plain.varTypes P).any (P.ifacesRec ·)) && (c.mapsOut == P.mapsAmong fn.resultTypes.toList) &&
   (c.loops == (fn.params.toList ++ s.plain.varTypes P).any (P.loopsFrom ·)) && (c.wideKeys == (fn.params.toList ++ s.plain.varTypes P ++ fn.resultTypes.toList).any (P.wideKeysFrom ·)) &&
   s.vars.all (P.varReadable ·) && fn.resultTypes.all (fun t => P.readableRec t && decide (t < P.types.size)) && (c.ifacesOut == fn.resultTypes.toList.any (P.ifacesRec ·)) && (c.loopsOut == fn.resultTypes.toList.any (P.loopsFrom ·)) && c.shortTexts.isNone) = true)
  (h5 : (c.plainKeys == P.plainKeys) = true) (h6 : P.stopsHeard = true) (h7 : P.mayEnter = true) (h8 : (c.lifted == P.liftsFinal) = true)
  (R : ((P.make == some c.make) && (c.kinds == (if c.domain.isEmpty then [] else fn.params.toList.map fun t => match P.underlying t with | some (.int k) => some k | _ => none)) && (c.pinned == c.pinnedBy) &&
   (c.veiled == (fn.params.toList ++ s.plain.varTypes P ++ fn.resultTypes.toList).any (P.veiledRec ·)) && c.veiledFits P fn.params.toList (fn.params.toList ++ s.plain.varTypes P ++ fn.resultTypes.toList)) = true) :
  joinedFacts P f fn s c = true := by
 unfold joinedFacts; simp only [yac] at A E R ⊢
 obtain ⟨⟨⟨⟨⟨⟨⟨⟨a1, a2⟩, a3⟩, a4⟩, a5⟩, a6⟩, a7⟩, a8⟩, a9⟩ := A
 obtain ⟨⟨⟨⟨⟨⟨⟨⟨⟨e1, e2⟩, e3⟩, e4⟩, e5⟩, e6⟩, e7⟩, e8⟩, e9⟩, e10⟩ := E
 obtain ⟨⟨⟨⟨r1, r2⟩, r3⟩, r4⟩, r5⟩ := R
 exact ⟨⟨⟨⟨⟨⟨⟨⟨⟨⟨⟨⟨⟨⟨⟨⟨⟨⟨⟨⟨⟨⟨⟨⟨⟨⟨⟨⟨⟨⟨⟨a1, a2⟩, a3⟩, a4⟩, a5⟩, a6⟩, a7⟩, a8⟩, a9⟩, h1⟩, h2⟩, h3⟩, h4⟩, e1⟩, e2⟩, e3⟩, e4⟩, e5⟩, e6⟩, e7⟩, e8⟩, e9⟩, h5⟩, e10⟩, h6⟩, h7⟩, h8⟩, r1⟩, r2⟩, r3⟩, r4⟩, r5⟩
end Go.Am
namespace Go.Proofs.YtbgilkcahebbfaaGreatDoor
open Go Go.Am Go.RowKit Go.ChangeShapes Go.WideShapes Go.ChangeAt
theorem own : ownKnob Tryz.prog.godebug = none := by kernel_rfl
theorem laidOut : laidOutB Tryz.prog = true := by kernel_rfl
theorem gPow : Tryz.prog.globalNamed "internal/strconv.uint64pow10" = some 5 := by kernel_rfl
theorem gLens : Tryz.prog.globalNamed "annuitant/calendar.lengths" = some 2 := by kernel_rfl
theorem gKinds : Tryz.prog.globalNamed "annuitant/parse.kindWords" = some 0 := by kernel_rfl
theorem gModes : Tryz.prog.globalNamed "annuitant/parse.modeWords" = some 1 := by kernel_rfl
theorem tPow : (Tryz.prog.globals[5]?).map (·.type) = some 233 := by kernel_rfl
theorem tLens : (Tryz.prog.globals[2]?).map (·.type) = some 220 := by kernel_rfl
theorem tKinds : (Tryz.prog.globals[0]?).map (·.type) = some 153 := by kernel_rfl
theorem tModes : (Tryz.prog.globals[1]?).map (·.type) = some 153 := by kernel_rfl
def laid6 : List (String × DataW Unit) := [("math/bits.deBruijn32tab", Rows.laid_math_bits_deBruijn32tab), ("math/bits.deBruijn64tab", Rows.laid_math_bits_deBruijn64tab), ("internal/strconv.uint64pow10", Rows.laid_internal_strconv_uint64pow10), ("annuitant/calendar.lengths", Rows.laid_annuitant_calendar_lengths), ("annuitant/parse.kindWords", Rows.laid_annuitant_parse_kindWords), ("annuitant/parse.modeWords", Rows.laid_annuitant_parse_modeWords)]
theorem door_met (os : Os) (args : Array Value) : laidMetH Tryz.prog laid6 ((World.doorLaid Tryz.prog 100 os).forCall (fun _ _ => 0) ⟨#[], args, []⟩).memory :=
 laidMetH_of_parts3 (fuel := 8) (laidMet_of_run' 8 (by kernel_rfl) (by kernel_rfl)) (by kernel_rfl) (by kernel_rfl)
theorem zk3 {W : World} {n : String} {g : Nat} {cs : Array Value} (hg : Tryz.prog.globalNamed n = some g) (hv : W.var? Tryz.prog n = some cs) (hc : ∃ c t, W.heap[g]? = some (.cells c t (0, 0))) : ∃ t, W.heap[g]? = some (.cells cs t (0, 0)) := by
 obtain ⟨c, t, hc⟩ := hc
 unfold World.var? at hv
 rw [hg] at hv; simp only [Option.bind_some, hc, Option.some.injEq] at hv; subst hv; exact ⟨t, hc⟩
theorem ztj {g n : Nat} {p q : List MemPlace} (h : 0 < n) : MemPlace.cell g 0 ∈ MemPlace.row ⟨g, 0, none⟩ n ++ p ++ q :=
 ycd _ (ycd _ (List.mem_map.2 ⟨0, List.mem_range.2 h, rfl⟩))
theorem zzfo : Rows.laid_internal_strconv_uint64pow10 (H := Unit) = .agg (z94.map fun n => .lit (.int .u64 n)) := by kernel_rfl
theorem zzbr : Rows.laid_annuitant_calendar_lengths (H := Unit) = .agg (z95.map fun n => .lit (.int .i64 n)) := by kernel_rfl
theorem z7e : Rows.laid_annuitant_parse_kindWords (H := Unit) = .agg (zre.map fun b => .lit (.string b)) := by kernel_rfl
theorem z7d : Rows.laid_annuitant_parse_modeWords (H := Unit) = .agg (zrc.map fun b => .lit (.string b)) := by kernel_rfl
theorem zzad {H : Type} {enc : TypeId × Value -> H} {P : Program} {w : World} {base : Nat} {spare : Nat -> Bool} {held : Bool} {e : TypeId} (he : P.underlying e = some (.int .u64)) (m : Nat) (c : List Value) (x : DataW H × List MemPlace) (n : Int) (h : DataW.trod enc P w base spare held m e c = some x) (hx : x.1 = .lit (.int .u64 n)) : c = [.int .u64 n] := by
 obtain ⟨k, rfl, rfl, _⟩ := DataW.trod_int he h
 simp at hx; rw [hx]
theorem laid_of {W : World} (h : laidMetH Tryz.prog laid6 W) (hsh : W.ShapedOpen Tryz.prog) : zcf W := by
 rw [MakeChecks.laidMetH_plain _ _ _ (by kernel_rfl)] at h
 obtain ⟨ps, ⟨_, _, _, _, _, _, _, _, _, _, ⟨_, _, _, _, _, _, _, _, _, _, ⟨g0, t0, cs0, f0, p0, q0, hg0, ht0, hv0, hd0, ⟨g1, t1, cs1, f1, p1, q1, hg1, ht1, hv1, hd1, ⟨g2, t2, cs2, f2, p2, q2, hg2, ht2, hv2, hd2, ⟨g3, t3, cs3, f3, p3, q3, hg3, ht3, hv3, hd3, _, hp3⟩, hp2⟩, hp1⟩, hp0⟩, hpb⟩, hpa⟩, _, hcell⟩ := h
 obtain rfl := ybj (gPow.symm.trans hg0)
 obtain rfl := ybj (gLens.symm.trans hg1)
 obtain rfl := ybj (gKinds.symm.trans hg2)
 obtain rfl := ybj (gModes.symm.trans hg3)
 obtain rfl := ybj (tPow.symm.trans ht0)
 obtain rfl := ybj (tLens.symm.trans ht1)
 obtain rfl := ybj (tKinds.symm.trans ht2)
 obtain rfl := ybj (tModes.symm.trans ht3)
 have c3 : Tryz.prog.cellsOf 3 = 1 := by kernel_rfl
 have c9 : Tryz.prog.cellsOf 9 = 1 := by kernel_rfl
 have c195 : Tryz.prog.cellsOf 195 = 1 := by kernel_rfl
 have c233 : Tryz.prog.cellsOf 233 = 20 := by kernel_rfl
 have c220 : Tryz.prog.cellsOf 220 = 12 := by kernel_rfl
 have c153 : Tryz.prog.cellsOf 153 = 7 := by kernel_rfl
 rw [zzfo] at hd0; rw [zzbr] at hd1; rw [z7e] at hd2; rw [z7d] at hd3; have e0 : cs0.toList = u64s z94 := zl9 (l := z94) (g := fun n => .lit (.int .u64 n)) (u := fun n => .int .u64 n) Tryz.underlying233 c195 c233 (fun m c x a => zzad Tryz.underlying195 m c x a) hd0
 have e1 : cs1.toList = ints z95 := zl9 (l := z95) (g := fun n => .lit (.int .i64 n)) (u := fun n => .int .i64 n) Tryz.underlying220 c3 c220 (fun m c x a => zzbz Tryz.underlying3 m c x a) hd1
 have e2 : cs2.toList = zze4 zre := zl9 (l := zre) (g := fun b => .lit (.string b)) (u := fun b => .string ⟨b.toArray⟩) Tryz.underlying153 c9 c153 (fun m c x a => z0k Tryz.underlying9 m c x a) hd2
 have e3 : cs3.toList = zze4 zrc := zl9 (l := zrc) (g := fun b => .lit (.string b)) (u := fun b => .string ⟨b.toArray⟩) Tryz.underlying153 c9 c153 (fun m c x a => z0k Tryz.underlying9 m c x a) hd3
 have s0 : cs0 = (u64s z94).toArray := by rw [<- e0]
 have s1 : cs1 = (ints z95).toArray := by rw [<- e1]
 have s2 : cs2 = (zze4 zre).toArray := by rw [<- e2]
 have s3 : cs3 = (zze4 zrc).toArray := by rw [<- e3]
 subst s0 s1 s2 s3
 have m0 : MemPlace.cell 5 0 ∈ ps := by
  rw [hpa, hpb, hp0]; exact ybg _ (ybg _ (ztj (by decide)))
 have m1 : MemPlace.cell 2 0 ∈ ps := by
  rw [hpa, hpb, hp0, hp1]; exact ybg _ (ybg _ (ybg _ (ztj (by decide))))
 have m2 : MemPlace.cell 0 0 ∈ ps := by
  rw [hpa, hpb, hp0, hp1, hp2]; exact ybg _ (ybg _ (ybg _ (ybg _ (ztj (by decide)))))
 have m3 : MemPlace.cell 1 0 ∈ ps := by
  rw [hpa, hpb, hp0, hp1, hp2, hp3]; exact ybg _ (ybg _ (ybg _ (ybg _ (ybg _ (ztj (by decide))))))
 exact ⟨zk3 hg2 hv2 (hcell 0 0 m2).1, zk3 hg3 hv3 (hcell 1 0 m3).1, zk3 hg1 hv1 (hcell 2 0 m1).1, Tryz.laysM144.s1_3 W hsh, zk3 hg0 hv0 (hcell 5 0 m0).1⟩
theorem stopsHeard : Tryz.prog.stopsHeard = true := by kernel_rfl
theorem mayEnter : Tryz.prog.mayEnter = true := by kernel_rfl
theorem bool4 : Tryz.prog.underlying 4 = some .bool := Tryz.underlying4
end Go.Proofs.YtbgilkcahebbfaaGreatDoor
