/- Whole numbers out of texts: whole.Parse. -/
import Derived.Test.YtfmlbimokklmgaaGreatDoorA17
set_option linter.all false
noncomputable section
set_option maxRecDepth 100000
namespace Go.Proofs
open Go Go.Am
variable [zb1]
section
variable {t : Tr zav} {Q : zbo}
theorem zi7 {b : Bool} {v : zab} (h : zab.one v = true) : zfh zab.one [.bool b, v] = true := by
 show (bif zab.one (.bool b) then (bif zab.one v then true else false) else false) = true
 rw [h]; rfl
theorem agW {b : Bool} {v : zab} {l : List Nat} (h : RSl t 1 (zf7 l) v) : zt6 [.bool false, .nilslice] (.agg [.bool b, v]) = some (cellsOf [.bool b, v]) := ztc (zqt (w := ⟨b, l⟩) h) (zej.zs _)
theorem zzas {l : List Nat} {v : zab} {neg : Bool} (hv : RSl t 1 (zbc .u32 l) v) (hl : l.length <= 500) (hlt : za2 4294967296 l)
  (hQ : ∀ t' u, TLe t t' -> RSl t' 1 (zf7 (l16 (val 4294967296 l))) u -> Q (.tup [.agg [.bool (if zcu l = [] then false else neg), u], .int .i64 0]) t') : Wc C30 F 122 [.bool neg, v] t Q := by
 refine w122 ?_
 unfold t122 uG; refine zam ?_
 rw [q141]; refine zrg hv (by omega) hlt fun t' u hle hu => ?_
 have hlt2 : za2 65536 (zcu (zbz (zcu l))) := zcx (zhn (zcx hlt))
 have hval : val 65536 (zcu (zbz (zcu l))) = val 4294967296 l := by rw [zet, zj2, zet]
 have e : zcu (zbz (zcu l)) = l16 (val 4294967296 l) := zzcn hlt2 (zdy _) hval
 rw [e] at hu; have hlen : (l16 (val 4294967296 l)).length <= 1000 := by
  rw [<- e]; have := zk4 (zbz (zcu l))
  rw [zhx] at this; have := zk4 l
  omega
 have hul := RSl.len (l := zf7 (l16 (val 4294967296 l))) hu
 rw [zgr] at hul; refine zbq (agW hu) (zag (zi7 hu.one) (zah hul (zaw (zaz (by rw [zbu]; simp; omega) (zag (zi7 hu.one) ?_)))))
 exact hQ t' u hle hu
theorem zwo {s : List Nat} (hs : ∀ b ∈ s, zba b = true) (h0 : s ≠ []) (hp : zd8 s = false) (hl : s.length <= 200) (hQ : ∀ t' u, TLe t t' -> RSl t' 1 (zf7 (l16 (ze6 s))) u -> Q (.tup [.agg [.bool false, u], .int .i64 0]) t') : Wc C30 F 99 [.str s] t Q := by
 have dig : ∀ b ∈ s, 48 <= b /\ b <= 57 := fun b hb => by have := hs b hb; unfold zba at this; simpa using this
 have hlen : 0 < s.length := List.length_pos_iff.2 h0
 obtain ⟨x, hx⟩ : ∃ x, s[0]? = some x := ⟨s[0], ybd hlen⟩
 have hxd := dig x (ycv hx)
 have hx0 := zcl hx
 rw [show ((0 : Nat) : Int) = 0 from rfl] at hx0
 have ll : ∀ s : List Nat, (Int.ofNat (zbf s)) = (s.length : Int) := fun s => by rw [za1]; rfl
 have words : ∀ (n : Nat) (r w : List Nat) (v : zab) (t1 : Tr zav), r.length <= n -> (∀ b ∈ r, zba b = true) -> r.length <= 200 -> w.length + r.length <= 300 -> TLe t t1 -> RSl t1 1 (zbc .u32 w) v -> za2 4294967296 w -> val 4294967296 w * 10 ^ r.length + ze6 r = ze6 s →
   jp 99 6 [.str r, .bool false, v, .bool false, .nilslice] t1 Q := by
  intro n; induction n with
  | zero =>
   intro r w v t1 hr hd hr2 hw hle hv hlt hval; have : r = [] := ycc.1 (by omega)
   subst this; refine j99_6 ?_
   unfold zzlw uG uI; rw [ll]; refine zaz (by simp [zbu]) (zam ?_)
   rw [q122]; refine zzas hv (by omega) hlt fun t2 u k1 k2 => ?_
   have : (if zcu w = [] then false else false) = false := by split <;> rfl
   rw [this]; have hval : val 4294967296 w = ze6 s := by simpa [ze6] using hval
   rw [hval] at k2; exact zah rfl (zbq (agW k2) (zah rfl (zaw (zag (zi7 k2.one) (hQ t2 u (hle.trans k1) k2)))))
  | succ n ih =>
   intro r w v t1 hr hd hr2 hw hle hv hlt hval; by_cases hz : r.length = 0
   ·exact ih r w v t1 (by omega) hd hr2 hw hle hv hlt hval
   refine j99_6 ?_
   unfold zzlw uG uI; have hc : (bif iLt (Int.ofNat (zbf r)) 9 then (Int.ofNat (zbf r)) else 9) = ((min 9 r.length : Nat) : Int) := by
    rw [ll, zbu]; by_cases h9 : r.length < 9
    ·rw [decide_eq_true (by omega)]; show (r.length : Int) = _; omega
    ·rw [decide_eq_false (by omega)]; show (9 : Int) = _; omega
   rw [hc, ll]; refine zag (by rw [zbu]; exact decide_eq_true (by omega)) (za3 ?_)
   have hcl : min 9 r.length <= r.length := Nat.min_le_right _ _
   generalize hcd : min 9 r.length = c at *
   have hc9 : c <= 9 := by omega
   have hpc : ∀ i, i <= c -> 10 ^ i <= 1000000000 := fun i hi => by
    have : 10 ^ i <= 10 ^ 9 := yao (by omega) (by omega)
    simpa using this
   have hdt : ∀ i, ze6 (r.take i) < 10 ^ i \/ r.length < i := fun i => by
    by_cases hi : i <= r.length
    ·have := zpi (s := r.take i) fun b hb => hd b (List.mem_of_mem_take hb)
     rw [yda, Nat.min_eq_left hi] at this; exact .inl this
    ·exact .inr (by omega)
   have inner : ∀ (k i : Nat), i + k = c -> jp 99 10 [.str r, .bool false, v, .int .i64 (c : Int), .int .u32 ((10 ^ i : Nat) : Int), .int .u32 ((ze6 (r.take i) : Nat) : Int), .int .i64 (c : Int), .int .i64 (i : Int), .bool false, .nilslice] t1 Q := by
    intro k; induction k with
    | zero =>
     intro i hi; have hi : i = c := by omega
     subst hi; refine zzj5 ?_
     unfold z9d; refine zaz (by simp [zbu]) (zam ?_)
     rw [q121]; have hp1 := hpc i (ybk _)
     have hp2 : ze6 (r.take i) < 10 ^ i := (hdt i).resolve_right (by omega)
     refine zzfx hv (by omega) hlt (by omega) (by omega) fun t2 w2 v2 k1 k2 k3 k4 k5 k6 => ?_
     refine zah (zqp (by omega)) (zcc (za3 ?_))
     refine ih (r.drop i) w2 v2 t2 (by rw [ydj]; omega) (fun b hb => hd b (List.mem_of_mem_drop hb)) (by rw [ydj]; omega) (by rw [ydj]; omega) (hle.trans k1) k2 k3 ?_
     have hsp : ze6 r = ze6 (r.take i) * 10 ^ (r.drop i).length + ze6 (r.drop i) := by rw [<- zq4, List.take_append_drop]
     have hlr : r.length = i + (r.drop i).length := by rw [ydj]; omega
     rw [k5, <- hval, hsp, hlr, Nat.pow_add]; grind
    | succ k ih2 =>
     intro i hi; have hri : r[i]? = some r[i] := ybd (by omega)
     have hrd : 48 <= r[i] /\ r[i] <= 57 := by have := hd r[i] (ycj _); unfold zba at this; simpa using this
     refine zzj5 ?_
     unfold z9d uU; have hp1 := hpc (i + 1) (by omega)
     have hp2 : ze6 (r.take (i + 1)) < 10 ^ (i + 1) := (hdt (i + 1)).resolve_right (by omega)
     rw [zdd hri, zoi] at hp2; refine zag (by rw [zbu]; exact decide_eq_true (by omega)) (zah (zcl hri) (zaw (za3 ?_)))
     rw [yag] at hp1 hp2; have e1 : zal .u32 (((10 ^ i : Nat) : Int) * 10) = ((10 ^ (i + 1) : Nat) : Int) := by rw [zen (by omega) (by omega), yag]; omega
     have e2 : zal .u32 (zal .u32 (((ze6 (r.take i) : Nat) : Int) * 10) + zal .u32 (zal .u8 ((r[i] : Int) - 48))) = ((ze6 (r.take (i + 1)) : Nat) : Int) := by
      rw [zvu (by omega) (by omega), zen (n := ((ze6 (r.take i) : Nat) : Int) * 10) (by omega) (by omega), zen (n := (r[i] : Int) - 48) (by omega) (by omega), zen (by omega) (by omega), zdd hri, zoi]
      omega
     have e3 : uIn (i : Int) = .int .i64 ((i + 1 : Nat) : Int) := by
      show zab.int .i64 (zal .i64 ((i : Int) + 1)) = _
      rw [zan (by omega) (by omega)]; rfl
     rw [e1, e2, e3]; exact ih2 (i + 1) (by omega)
   exact inner c 0 (by omega)
 have check : ∀ (k i : Nat), i + k = s.length -> jp 99 2 [.str s, .bool false, .int .i64 (s.length : Int), .int .i64 (i : Int), .bool false, .nilslice] t Q := by
  intro k; induction k with
  | zero =>
   intro i hi; refine j99_2 ?_
   unfold zzlx; rw [ll]; refine zaz (by rw [zbu]; simp; omega) (zaz (by rw [zbu]; simp; omega) (za3 ?_))
   exact words s.length s [] .nilslice t (ybk _) hs hl (by simp; omega) (TLe.refl _) zza0 (fun x hx => by cases hx) (by simp [val])
  | succ k ih =>
   intro i hi; have hsi : s[i]? = some s[i] := ybd (by omega)
   have hsd := dig s[i] (ycj _)
   refine j99_2 ?_
   unfold zzlx uU; have e3 : uIn (i : Int) = .int .i64 ((i + 1 : Nat) : Int) := by
    show zab.int .i64 (zal .i64 ((i : Int) + 1)) = _
    rw [zan (by omega) (by omega)]; rfl
   refine zag (by rw [zbu]; exact decide_eq_true (by omega)) (zah (zcl hsi) (zaw (zaz (by rw [zbu]; simp; omega) (zah (zcl hsi) (zaw (zaz (by rw [zbu]; simp; omega) (za3 ?_)))))))
   rw [e3]; exact ih (i + 1) (by omega)
 refine w99 ?_
 unfold t99 uU; rw [ll]; refine zag (by rw [zbu]; exact decide_eq_true (by omega)) (zah hx0 (zaw (zaz (by rw [zc0]; simp; omega) (za3 ?_))))
 have e45 : iEq (x : Int) 45 = false := by rw [zc0]; simp; omega
 rw [e45]; refine j99_11 ?_
 unfold zzje uU; rw [ll]; refine zaz (by rw [zc0]; simp; omega) (zah hx0 (zaw ?_))
 by_cases h48 : x = 48
 ·have hl1 : s.length = 1 := by
   unfold zd8 at hp; have : s.head? = some 48 := by
    cases s with
    | nil => cases hx
    | cons a r => cases hx; simp [h48]
   rw [this] at hp; simp at hp; omega
  refine zag (by rw [zc0]; simp; omega) (zaz (by simp) (zaz (by rw [zbu]; simp; omega) (za3 ?_)))
  exact check s.length 0 (by omega)
 ·refine zaz (by rw [zc0]; simp; omega) (za3 ?_)
  exact check s.length 0 (by omega)
end
end Go.Proofs
namespace Go.Proofs
open Go Go.Am
variable [zb1]
theorem zgd {n : Nat} (h : (l16 n).length <= 1024) : zhv false (l16 n) = true := by
 unfold zhv; split
 ·rfl
 ·rename_i hne
  have hn := znv n hne
  have : (l16 n).getLast? ≠ some 0 := by
   rw [List.getLast?_eq_some_getLast hne]; intro e; exact hn (yci e)
  simp [h, this]
theorem el41 : ElTy C30 41 79 1 := ⟨⟨_, ty41, rfl, rfl⟩, ⟨_, zzi8, rfl, rfl, by decide, by decide⟩, fun y h => by rw [zzi8] at h; cases h; rfl⟩
section
variable {t : Tr zav} {Q : zbo}
theorem sameA {b : Bool} {v : zab} {l : List Nat} (h : RSl t 1 (zf7 l) v) : same 10 (.agg [.bool b, v]) (.agg [.bool b, v]) = true := by
 have h1 := RSl.same (d := 9) h
 have h2 : same 9 (.bool b) (.bool b) = true := zzal
 show (same 9 (.bool b) (.bool b) && (same 9 v v && true)) = true
 rw [h1, h2]; rfl
theorem z32 {l : List Nat} {v : zab} (hv : RSl t 1 (zbc .u32 l) v) (hl : l.length < 400000) (hlt : za2 4294967296 l) (hQ : ∀ t' u, TLe t t' -> RSl t' 1 (zf7 (l16 (val 4294967296 l))) u -> Q (.agg [.bool false, u]) t') : Wc C30 F 141 [.bool false, v] t Q := by
 refine zrg hv hl hlt fun t' u hle hu => ?_
 have hlt2 : za2 65536 (zcu (zbz (zcu l))) := zcx (zhn (zcx hlt))
 have hval : val 65536 (zcu (zbz (zcu l))) = val 4294967296 l := by rw [zet, zj2, zet]
 rw [zzcn hlt2 (zdy _) hval] at hu
 have : (if zcu l = [] then false else false) = false := by split <;> rfl
 rw [this]; exact hQ t' u hle hu
theorem zzdx {a b : Nat} {u v : zab} (hu : RSl t 1 (zf7 (l16 a)) u) (hv : RSl t 1 (zf7 (l16 b)) v) (ha : (l16 a).length <= 1000) (hb : (l16 b).length <= 1000) (hb0 : 0 < b)
  (hQ : ∀ t' q r, TLe t t' -> RSl t' 1 (zf7 (l16 (a / b))) q -> RSl t' 1 (zf7 (l16 (a % b))) r -> Q (.tup [.agg [.bool false, q], .agg [.bool false, r], .int .i64 0]) t') : Wc C30 F 156 [.agg [.bool false, u], .agg [.bool false, v]] t Q := by
 have hBB := zky
 refine w156 ?_
 unfold t156 uB uI; refine zau fun bb hbb hbase => ?_
 obtain ⟨t1, g1, g2, g3, g4⟩ := zld (C := C30) (T := 229) (el := 43) (sz := 2) (n := 2) (cl := [[.bool false, u], [.bool false, v]]) (ps := [(0, .agg [.bool false, u]), (1, .agg [.bool false, v])]) zzlm rfl ty43 rfl rfl (by decide) rfl (fun i cs hi => by
  match i, hi with
  | 0, hi => cases hi; rfl
  | 1, hi => cases hi; rfl) rfl hbb
 refine ⟨_, _, g1, zam ?_⟩
 have hw : RSl t1 2 ([(⟨false, l16 a⟩ : zej), ⟨false, l16 b⟩].map zej.d) (.slice bb 0 2 2) := ⟨_, g2, zcg.2 ⟨_, _, rfl, zqt (w := ⟨false, l16 a⟩) (hu.mono g3), zcg.2 ⟨_, _, rfl, zqt (w := ⟨false, l16 b⟩) (hv.mono g3), zdl.2 rfl⟩⟩⟩
 have hall := ztb hw (fun w hw => by
  rcases ybs.1 hw with rfl | hw
  ·show (l16 a).length < _; omega
  ·rcases ybs.1 hw with rfl | hw
   ·show (l16 b).length < _; omega
   ·cases hw) (by simp)
 have hva := zgd (n := a) (by omega)
 have hvb := zgd (n := b) (by omega)
 rw [q162, hall, zaa]; refine zcf (zaz (by simp [hva, hvb]) ?_)
 have hvl := RSl.len (l := zf7 (l16 b)) hv
 rw [zgr] at hvl; have hbne : l16 b ≠ [] := fun e => by have := zm5.1 e; omega
 have hbl : 0 < (l16 b).length := List.length_pos_iff.2 hbne
 refine zah hvl (zaw (zaz (by rw [zc0]; simp; omega) (zam ?_)))
 rw [q164]; refine zwp (hv.mono g3) (by omega) (zei b) fun t2 v2 k1 k2 => zam ?_
 rw [q164]; refine zwp ((hu.mono g3).mono k1) (by omega) (zei a) fun t3 v3 m1 m2 => zam ?_
 rw [q165]; have an := zie (zei a)
 have ab := zie (zei b)
 have vn : ∀ n, val BB (zer (l16 n)) = n := fun n => by rw [hBB, zrd, zi6]
 refine zst m2 (k2.mono m1) (by rw [zdx]; omega) (by rw [hBB]; exact an) (by rw [hBB]; exact ab) (zjo (znv a)) (zjo (znv b)) (fun e => ?_) fun t4 q r qv rv p1 p2 p3 p4 p5 p6 p7 p8 p9 => ?_
 ·have := vn b
  rw [e] at this; have : (0 : Nat) = b := this
  omega
 rw [vn, vn] at p8; rw [vn] at p9; have hq : val BB q = a / b /\ val BB r = a % b := by
  have h1 : a = b * val BB q + val BB r := p8
  have h2 : val BB r < b := p9
  constructor
  ·rw [h1, Nat.mul_add_div hb0, Nat.div_eq_of_lt h2, yct]
  ·rw [h1, Nat.mul_add_mod, Nat.mod_eq_of_lt h2]
 have hB1 : 1 < BB := by omega
 have lenq : q.length <= 1000 := by
  have h1 : val BB q <= val BB (zer (l16 a)) := by rw [vn, hq.1]; exact Nat.div_le_self _ _
  have := zeq hB1 (by rw [hBB]; exact an) p6 h1
  rw [zdx] at this; omega
 have lenr : r.length <= 1000 := by
  have h1 : val BB r <= val BB (zer (l16 b)) := by rw [vn]; omega
  have := zeq hB1 (by rw [hBB]; exact ab) p7 h1
  rw [zdx] at this; omega
 refine zah rfl (zah rfl (zaz (by decide) (za3 ?_)))
 refine zzm6 ?_
 unfold z90 uG; refine zam ?_
 rw [q141]; show Wc C30 F 141 [.bool false, qv] t4 _
 refine z32 p2 (by omega) (by rw [<- hBB]; exact p4) fun t5 u5 s1 s2 => ?_
 rw [<- hBB, hq.1] at s2; refine zbq (agW s2) (zag rfl (zam ?_))
 rw [q141]; refine z32 (p3.mono s1) (by omega) (by rw [<- hBB]; exact p5) fun t6 u6 s3 s4 => ?_
 rw [<- hBB, hq.2] at s4; refine zbq (agW s4) (zag (zi7 s2.one) (zag (zi7 s4.one) ?_))
 exact hQ t6 u5 u6 (g3.trans (k1.trans (m1.trans (p1.trans (s1.trans s3))))) (s2.mono s3) s4
theorem zzku {a b : Nat} {u v : zab} (hu : RSl t 1 (zf7 (l16 a)) u) (hv : RSl t 1 (zf7 (l16 b)) v) (ha : (l16 a).length <= 1000) (hb : (l16 b).length <= 1000) (hb0 : 0 < b)
  (hQ : ∀ t' q r, TLe t t' -> RSl t' 1 (zf7 (l16 (a / b))) q -> RSl t' 1 (zf7 (l16 (a % b))) r -> Q (.tup [.agg [.bool false, q], .agg [.bool false, r]]) t') : Wc C30 F 143 [.agg [.bool false, u], .agg [.bool false, v]] t Q := by
 refine w143 ?_
 unfold t143 uG uI; refine zam ?_
 rw [q156]; refine zzdx hu hv ha hb hb0 fun t' q r h1 h2 h3 => ?_
 refine zah rfl (zbq (agW h2) (zah rfl (zbq (agW h3) (zah rfl (zaw (zag (zi7 h2.one) (zag (zi7 h3.one) (zag (zi7 h2.one) (zag (sameA h3) (zag (zi7 h3.one) ?_))))))))))
 exact hQ t' q r h1 h2 h3
theorem agF {f : zf9} {u v : zab} (hu : RSl t 1 (zf7 f.n.limbs) u) (hv : RSl t 1 (zf7 f.d.limbs) v) : zt6 [.bool false, .nilslice, .bool false, .nilslice] (.agg [.bool f.n.neg, u, .bool f.d.neg, v]) = some (cellsOf [.bool f.n.neg, u, .bool f.d.neg, v]) := ztc (zwy hu hv) (zf9.zs _)
theorem zn3 {a b : Nat} (h : a <= b) : (l16 a).length <= (l16 b).length :=
 zeq (B := 65536) (by omega) (zei b) (znv a) (by rw [zi6, zi6]; exact h)
theorem zzml {a b : Nat} {u v : zab} (hu : RSl t 1 (zf7 (l16 a)) u) (hv : RSl t 1 (zf7 (l16 b)) v) (ha : (l16 a).length <= 200) (hb : (l16 b).length <= 200) (hb0 : 0 < b)
  (hQ : ∀ t' cs, TLe t t' -> RD t' (zib false a b).dd cs -> Q (.tup [.agg cs, .int .i64 0]) t') : Wc C30 F 100 [.agg [.bool false, u], .agg [.bool false, v]] t Q := by
 have hva := zgd (n := a) (by omega)
 have hvb := zgd (n := b) (by omega)
 have hvl := RSl.len (l := zf7 (l16 b)) hv
 rw [zgr] at hvl; have hbne : l16 b ≠ [] := fun e => by have := zm5.1 e; omega
 have hbl : 0 < (l16 b).length := List.length_pos_iff.2 hbne
 refine w100 ?_
 unfold t100 uB uI uG; refine zam ?_
 rw [q123, zlu (by omega) hu, zaa, hva]
 refine zcf (zaz (by simp) (zam ?_))
 rw [q123, zlu (by omega) hv, zaa, hvb]
 refine zcf (zaz (by simp) (zah hvl (zaw (zaz (by rw [zc0]; simp; omega) (zam ?_)))))
 rw [q124]; refine w124 ?_
 unfold t124; refine zaz (by simp) (za3 (j124_7 ?_))
 unfold zzjm uG; refine zam ?_
 rw [q142]; refine w142 ?_
 unfold t142 uG uI; refine zam ?_
 rw [q155]; refine zzks (n := ⟨false, l16 a⟩) (d := ⟨false, l16 b⟩) hu hv (by show (l16 a).length < _; omega) (by show (l16 b).length < _; omega) (zei a) (zei b) hva hvb fun t1 g gv h1 h2 h3 h4 h5 => ?_
 have h5 : val 65536 g = Nat.gcd a b := by rw [h5, zi6, zi6]
 have hg := zzcn h3 h4 h5
 subst hg; have hgb : Nat.gcd a b <= b := Nat.gcd_le_right _ hb0
 have hgl := zn3 hgb
 have hg0 : 0 < Nat.gcd a b := Nat.gcd_pos_of_pos_right _ hb0
 refine zah rfl (zbq (agW h2) (zah rfl (zaw (zag (zi7 h2.one) (zag (zi7 h2.one) ?_)))))
 refine zbq (agW h2) (zag (zi7 h2.one) (zam ?_))
 rw [q143]; refine zzku (hu.mono h1) h2 (by omega) (by omega) hg0 fun t2 q r k1 k2 k3 => ?_
 refine zah rfl (zbq (agW k2) (zah rfl (zbq (agW k3) (zag (zi7 k2.one) (zam ?_)))))
 rw [q143]; refine zzku ((hv.mono h1).mono k1) (h2.mono k1) (by omega) (by omega) hg0 fun t3 q2 r2 m1 m2 m3 => ?_
 have kq := k2.mono m1
 have hf := zwy (f := ⟨⟨false, l16 (a / Nat.gcd a b)⟩, ⟨false, l16 (b / Nat.gcd a b)⟩⟩) kq m2
 refine zah rfl (zbq (agW m2) (zah rfl (zbq (agW m3) (zag (zi7 m2.one) (zag rfl (zag rfl (zag hf.all ?_)))))))
 refine zbq (agF (f := ⟨⟨false, l16 (a / Nat.gcd a b)⟩, ⟨false, l16 (b / Nat.gcd a b)⟩⟩) kq m2) (zam ?_)
 have ql := RSl.len (l := zf7 (l16 (a / Nat.gcd a b))) kq
 rw [zgr] at ql; have ql2 := RSl.len (l := zf7 (l16 (b / Nat.gcd a b))) m2
 rw [zgr] at ql2; have la := zn3 (Nat.div_le_self a (Nat.gcd a b))
 have lb := zn3 (Nat.div_le_self b (Nat.gcd a b))
 have long : pvC C30 F 144 [.agg [.bool false, q, .bool false, q2]] t3 = some (.bool false) := by
  refine zbg.2 (w144 ?_)
  unfold t144 uI uTr; refine zah ql (zaw (zaz (by rw [zbu]; simp; omega) (zah ql2 (zaw ⟨?_, rfl⟩))))
  rw [zbu, decide_eq_false (by omega)]
 have res : pvC C30 F 125 [.agg [.bool false, q, .bool false, q2]] t3 = some (.tup [.agg [.bool false, q, .bool false, q2], .int .i64 0]) := by
  refine zbg.2 (w125 ?_)
  unfold t125 uB; refine zam ?_
  rw [q144, long, zaa]; exact zcf (zaz (by simp) (zag hf.all ⟨rfl, rfl⟩))
 rw [q125]; show zf8 (pvC C30 F 125 [.agg [.bool false, q, .bool false, q2]] t3) _
 rw [res, zaa]; refine zah rfl (zbq (agF (f := ⟨⟨false, l16 (a / Nat.gcd a b)⟩, ⟨false, l16 (b / Nat.gcd a b)⟩⟩) kq m2) (zah rfl (zaw (zag hf.all ?_))))
 refine hQ t3 _ (h1.trans (k1.trans m1)) ?_
 unfold zib; exact hf
theorem zvg {l : List Nat} {v : zab} (hv : RSl t 1 (zf7 l) v) (hl : l.length < 1000000) (hQ : ∀ t' v', TLe t t' -> RSl t' 1 (zf7 l) v' -> Q v' t') : Wc C30 F 146 [v] t Q := by
 refine w146 ?_
 have e : (zzfi .eql).f C30 41 (.tmp 3) (.const (.slice none 0 0)) v .nilslice = some (.bool (Nat.beq v.tag 5)) := by
  obtain ⟨cl, h1, _⟩ := hv
  rcases h1 with ⟨rfl, _⟩ | ⟨b, off, cap, rfl, _⟩
  ·kernel_rfl
  ·kernel_rfl
 simp only [uB, t146, wpT, e, zaa, ze0]; split
 ·grind [zk3, zds, TLe.refl]
 ·intro b hb hbase
  obtain ⟨H1, g1, ⟨c, g2⟩, g3⟩ := lit0 (t := t) ty41 rfl zzi8 rfl hb
  rw [g1]; simp only [zaa]; intro n hn _; obtain ⟨u, H', g4, g5, g6, _⟩ := zta el41 (hv.mono g3) (by grind [zgr]) hn (.inr ⟨b, c, 0, rfl, g2⟩)
  rw [g4]; simp only [zaa]; exact hQ _ _ (g3.trans g6) g5
theorem zzbe {l : List Nat} {neg : Bool} {v : zab} (hv : RSl t 1 (zf7 l) v) (hl : l.length < 1000000) (hQ : ∀ t' v', TLe t t' -> RSl t' 1 (zf7 l) v' -> Q (.agg [.bool (!neg && decide (0 < l.length)), v']) t') : Wc C30 F 127 [.agg [.bool neg, v]] t Q := by
 have hvl := RSl.len (l := zf7 l) hv
 rw [zgr] at hvl; refine w127 ?_
 unfold t127 uI
 cases neg with
 | false =>
  refine zag rfl (zah hvl (zaw (zam ?_)))
  rw [q146]; refine zvg hv hl fun t1 v1 h1 h2 => ?_
  have e : iLt 0 (l.length : Int) = decide (0 < l.length) := by rw [zbu]; congr 1; simp
  rw [e]; have hs : same 10 (.int .i64 (l.length : Int)) (uZ (l.length : Int)) = true := by
   show same 10 (.int .i64 (l.length : Int)) (.int .i64 (l.length : Int)) = true
   exact zqr
  refine zag hv.same (zah hvl (zag hs (zag (zi7 h2.one) (zag (zi7 h2.one) ?_))))
  have := hQ t1 v1 h1 h2
  rw [ycl, ycn] at this; exact this
 | true =>
  refine zaz (by simp) (zam ?_)
  rw [q146]; refine zvg hv hl fun t1 v1 h1 h2 => ?_
  refine zag (zi7 h2.one) (zag (zi7 h2.one) ?_)
  exact hQ t1 v1 h1 h2
theorem neg_ok {a b : Nat} {cs : List zab} (hd : RD t (zib false a b).dd cs) (ha : (l16 a).length <= 200) (hb : (l16 b).length <= 200) (hb0 : 0 < b)
  (hQ : ∀ t' cs, TLe t t' -> RD t' (zib true a b).dd cs -> Q (.tup [.agg cs, .int .i64 0]) t') : Wc C30 F 101 [.agg cs] t Q := by
 have hg0 : 0 < Nat.gcd a b := Nat.gcd_pos_of_pos_right _ hb0
 have la := zn3 (Nat.div_le_self a (Nat.gcd a b))
 have lb := zn3 (Nat.div_le_self b (Nat.gcd a b))
 obtain ⟨u, v, rfl, hu, hv⟩ := rd_frac hd
 have hu : RSl t 1 (zf7 (l16 (a / Nat.gcd a b))) u := hu
 have hv : RSl t 1 (zf7 (l16 (b / Nat.gcd a b))) v := hv
 have hd0 : 0 < b / Nat.gcd a b := Nat.div_pos (Nat.gcd_le_right _ hb0) hg0
 have hvalid : zym (zib false a b) = true := by
  unfold zym; have e1 : (zib false a b).n = ⟨false, l16 (a / Nat.gcd a b)⟩ := rfl
  have e2 : (zib false a b).d = ⟨false, l16 (b / Nat.gcd a b)⟩ := rfl
  rw [e1, e2]; simp only [zgd (n := a / Nat.gcd a b) (by omega), zgd (n := b / Nat.gcd a b) (by omega), zi6]
  have hco : Nat.gcd (a / Nat.gcd a b) (b / Nat.gcd a b) = 1 := by
   rw [Nat.gcd_div (Nat.gcd_dvd_left a b) (Nat.gcd_dvd_right a b), Nat.div_self hg0]
  have hne : l16 (b / Nat.gcd a b) ≠ [] := fun e => by have := zm5.1 e; omega
  simp [hne, hco]
  omega
 have hfit : zf9.fit (zib false a b) := ⟨⟨by show (l16 _).length < _; unfold zt5; omega, by show (l16 _).length < _; unfold zt5; omega⟩, zei _, zei _⟩
 refine w101 ?_
 unfold t101 uB uG; refine zam ?_
 rw [q126]; have := z8s (f := zib false a b) hu hv hfit
 show zf8 (pvC C30 F 126 [.agg [.bool (zib false a b).n.neg, u, .bool (zib false a b).d.neg, v]] t) _
 rw [this, zaa, hvalid]; refine zcf (zaz (by simp) (zam ?_))
 rw [q127]; refine zzbe (neg := false) hu (by omega) fun t1 u1 h1 h2 => ?_
 have hv1 := hv.mono h1
 refine zbq (agW h2) (zag (sameA hv1) (zam ?_))
 rw [q127]; refine zzbe (neg := false) hv1 (by omega) fun t2 v2 k1 k2 => ?_
 refine zbq (agW k2) (zam ?_)
 rw [q127]; refine zzbe (neg := (!false && decide (0 < (l16 (b / Nat.gcd a b)).length))) k2 (by omega) fun t3 v3 m1 m2 => ?_
 refine zbq (agW m2) (zag rfl ?_)
 have hne : 0 < (l16 (b / Nat.gcd a b)).length := List.length_pos_iff.2 fun e => by have := zm5.1 e; omega
 have hn : (zib true a b).n = ⟨!false && decide (0 < (l16 (a / Nat.gcd a b)).length), l16 (a / Nat.gcd a b)⟩ := by
  unfold zib; congr 1
  by_cases h0 : a = 0
  ·subst h0
   have : l16 (0 / Nat.gcd 0 b) = [] := zm5.2 (by simp)
   rw [this]; rfl
  ·have h1 : 0 < a / Nat.gcd a b := Nat.div_pos (Nat.gcd_le_left _ (by omega)) hg0
   have : 0 < (l16 (a / Nat.gcd a b)).length := List.length_pos_iff.2 fun e => by have := zm5.1 e; omega
   simp [this]; omega
 have hdd : (zib true a b).d = ⟨!(!false && decide (0 < (l16 (b / Nat.gcd a b)).length)) && decide (0 < (l16 (b / Nat.gcd a b)).length), l16 (b / Nat.gcd a b)⟩ := by
  unfold zib; congr 1; simp [hne]
 have hf := zwy (f := ⟨⟨!false && decide (0 < (l16 (a / Nat.gcd a b)).length), l16 (a / Nat.gcd a b)⟩, ⟨!(!false && decide (0 < (l16 (b / Nat.gcd a b)).length)) && decide (0 < (l16 (b / Nat.gcd a b)).length), l16 (b / Nat.gcd a b)⟩⟩) ((h2.mono k1).mono m1) m2
 refine zag hf.all ?_
 refine hQ t3 _ (h1.trans (k1.trans m1)) ?_
 have : zib true a b = ⟨(zib true a b).n, (zib true a b).d⟩ := rfl
 rw [this, hn, hdd]; exact hf
end
end Go.Proofs
namespace Go.Proofs
open Go Go.Am
variable [zb1]
section
variable {t tf : Tr zav}
theorem z28 {l : List Nat} {y : zab} {box : Nat} {v : zab} {Q : zbo} {I : Nat -> Tr zav -> Prop} (hl : l.length < 1000000)
  (hr : ∀ k t, I k t -> zao C30 41 ⟨0, t⟩ (.ptr box 0) = some v /\ RSl t 1 (zbc .u16 l) v)
  (hy : ∀ k x t, l[k]? = some x -> I (k + 1) t -> ∀ R : zbo, (∀ t', I k t' -> R (.bool true) t') -> zf8 (zkx y [.int .u16 (x : Nat)]) fun p => Wq C30 F zct p.1 p.2 t R)
  (hQ : ∀ t, I 0 t -> Q (.tup []) t) : ∀ (k : Nat) (t : Tr zav), k <= l.length -> I k t -> jp 159 2 [y, .ptr box 0, .int .i64 ((k : Int) - 1)] t Q := by
 intro k; induction k with
 | zero =>
  intro t _ h; refine zzki ?_
  simp only [uH, uB, uZ, uW, z9z, wpT, zew]; simp_all
 | succ k ih =>
  intro t hk h; obtain ⟨g0, hv⟩ := hr _ _ h
  obtain ⟨x, hx⟩ := getElem?_of_lt (l := l) (i := k) (by omega)
  obtain ⟨c, off, g1, g2⟩ := hv.idx zzjp hx
  have e1 : ((k + 1 : Nat) : Int) - 1 = (k : Int) := by omega
  rw [e1]; refine zzki ?_
  simp (disch := omega) only [uH, uB, uZ, uW, z9z, wpT, zew, g0, g1, g2, zaa, zak, zan]
  rw [yab (by omega)]
  refine hy k x t hx h _ fun t' ht' => ?_
  grind [zab.asBool, zaa]
theorem zzdv {l : List Nat} {y : zab} {box : Nat} {v : zab} {Q : zbo} {t : Tr zav} {I : Nat -> Tr zav -> Prop} (hl : l.length < 1000000)
  (hr : ∀ k t, I k t -> zao C30 41 ⟨0, t⟩ (.ptr box 0) = some v /\ RSl t 1 (zbc .u16 l) v)
  (hy : ∀ k x t, l[k]? = some x -> I (k + 1) t -> ∀ R : zbo, (∀ t', I k t' -> R (.bool true) t') -> zf8 (zkx y [.int .u16 (x : Nat)]) fun p => Wq C30 F zct p.1 p.2 t R)
  (hQ : ∀ t, I 0 t -> Q (.tup []) t) (h : I l.length t) : Wc C30 F 159 [y, .ptr box 0] t Q := by
 obtain ⟨g0, hv⟩ := hr _ _ h
 refine w159 ?_
 simp (disch := omega) only [uI, uZ, uW, t159, wpT, g0, hv.len, zbl, zaa, zak, zan]
 exact z28 hl hr hy hQ l.length t (ybk _) h
theorem zzd {f i : Nat} {v8 v4 : zab} {K R : T} {ps : List Nat} {Q : zbo} {S : Nat -> Tr zav -> Tr zav -> Prop} (hS : ∀ k, zzfa (S k)) (hp : RSl tf 1 (zbc .u16 ps) v4) (hl : ps.length < 30000) (h : S ps.length tf t)
  (body : ∀ (k x : Nat) (tf t : Tr zav) (Q1 : zbo), ps[k]? = some x -> S (k + 1) tf t -> (∀ t', S k tf t' -> Q1 (.bool true) t') -> Jq C30 F f i [v8, .int .u16 (x : Int)] t Q1)
  (fin : ∀ tf' t', TLe tf tf' -> S 0 tf' t' -> wpT C30.base (Wq C30 F zct) (Jq C30 F f) K t' Q) :
  wpT C30.base (Wq C30 F zct) (Jq C30 F f) (.call 147 [v4] fun a0 => .range (npC C30) a0 i 1 [v8] K R) t Q := by
 simp only [wpT]; rw [q147]; refine w147 ?_
 simp only [t147, wpT]; intro bb hbb hbase; have hc4 : v4.cells = [v4] := by
  obtain ⟨cl, h1, _⟩ := hp
  rcases h1 with ⟨rfl, _⟩ | ⟨_, _, _, rfl, _⟩ <;> rfl
 have hone : zx9 v4 ⟨bb, t⟩ = some (.ptr bb 0, ⟨bb + 1, t.set bb (.cells (Tr.ofList [v4]) 1 none)⟩) := by
  unfold zx9; rw [hc4]; rfl
 rw [hone, zaa]; simp only []; have h1 := (hS _).both h hbb (.cells (Tr.ofList [v4]) 1 none)
 have hfb := zwv ((hS _).le h) hbb
 have htf1 : TLe tf (tf.set bb (.cells (Tr.ofList [v4]) 1 none)) := (zff hfb _).1
 generalize htf : tf.set bb (.cells (Tr.ofList [v4]) 1 none) = tf1 at h1 htf1
 have hg1 : tf1.get bb = some (.cells (Tr.ofList [v4]) 1 none) := by rw [<- htf, Tr.get_set, yab rfl]
 generalize t.set bb (.cells (Tr.ofList [v4]) 1 none) = t1 at h1
 refine ⟨Nat.le_add_right _ _, fun l r hl0 hlb hr1 hr2 hy => ?_⟩
 have hra : zgv (npC C30) (.func (.func 159) [] [.ptr bb 0]) l = some (159, [.func (.yld l) [] [], .ptr bb 0]) := by
  unfold zgv; simp only [zab.asFunc, zad]; have : npC C30 159 = true := by kernel_rfl
  rw [this]; rfl
 rw [hra, zaa]; have h2 := (hS _).both h1 hl0 (.loop r)
 have hfl := zwv ((hS _).le h1) hl0
 have hlr : zlf true r = r := by
  obtain ⟨a, b, c, d, e, f, g, h, i⟩ := r
  have hr1 : a = .ready := hr1
  have hr2 : b = none := hr2
  subst hr1; subst hr2; rfl
 have hle2 : TLe tf1 (tf1.set l (.loop r)) := (zff hfl _).1
 rw [show Wq C30 F zct 159 = Wc C30 F 159 by funext a m R; rw [q159]]
 refine zzdv (l := ps) (v := v4) (I := fun k t' => S k (tf1.set l (.loop r)) t') (by omega) ?_ ?_ ?_ h2
 ·intro k t' hI
  have hle := (hS _).le hI
  have hg : t'.get bb = some (.cells (Tr.ofList [v4]) 1 none) := hle _ _ (hle2 _ _ hg1)
  refine ⟨?_, hp.mono (htf1.trans (hle2.trans hle))⟩
  exact (Cel.load1 (cs := [v4]) (lo := none) ⟨Tr.ofList [v4], hg, fun j a hj => by grind [Tr.get_ofList]⟩ ty41 rfl (j := 0) rfl)
 ·intro k x t' hx hI R hR
  show zf8 (some (yo + l, [zab.int .u16 (x : Int)])) _
  rw [zaa]; refine hy [.int .u16 (x : Int)] t' R rfl ((hS _).le hI _ _ (by rw [Tr.get_set, yab rfl])) ?_
  refine body k x tf1 _ _ hx ((hS _).out hfl hI) fun t2 h3 hn2 => ⟨true, rfl, ?_⟩
  rw [hlr]; exact hR _ ((hS _).both h3 hn2 (.loop r))
 ·intro t' hI
  exact .inl ⟨(hS _).le hI _ _ (by rw [Tr.get_set, yab rfl]), fin tf1 _ htf1 ((hS _).out hfl hI)⟩
theorem or16 {x y : Nat} (hx : x < 281474976710656) (hy : y < 65536) : zfr Nat.lor .u64 ((x * 65536 : Nat) : Int) (y : Int) = some (.int .u64 ((x * 65536 + y : Nat) : Int)) := by
 have h := zrn (a := x) (b := y) (n := 16) hy
 have e : (2 : Nat) ^ 16 = 65536 := by decide
 rw [e] at h; rw [zef (k := .u64) (show x * 65536 < kHi .u64 by show _ < 18446744073709551616; omega) (show y < kHi .u64 by show _ < 18446744073709551616; omega), h]
theorem zzho {bx x y : Nat} {Q1 : zbo} (h : z8l bx (.int .u64 (y : Int)) tf t) (hy : y < 281474976710656) (hx : x < 65536) (hQ : ∀ t', z8l bx (.int .u64 ((y * 65536 + x : Nat) : Int)) tf t' -> Q1 (.bool true) t') : jp 128 2 [.ptr bx 0, .int .u16 (x : Int)] t Q1 := by
 obtain ⟨i1, i2, i3, i4⟩ := h
 have e5 : (y : Int) * 65536 = ((y * 65536 : Nat) : Int) := by omega
 have e6 : zfr Nat.lor .u64 (zal .u64 ((y : Int) * 65536)) (zal .u64 (x : Int)) = some (.int .u64 ((y * 65536 + x : Nat) : Int)) := by
  rw [e5, za5 (by omega) (by omega), za5 (by omega) (by omega), or16 hy hx]
 refine j128_2 ?_
 unfold zzjl uE; refine zat (i4.load1 zmv rfl (j := 0) rfl) (zaw ?_)
 refine zah e6 (zaw (zau fun b3 _ _ => ?_))
 obtain ⟨t3, k1, k2, k3⟩ := i4.store1 (v := .int .u64 ((y * 65536 + x : Nat) : Int)) i1 zmv rfl rfl rfl (j := 0) (by simp)
 exact ⟨_, _, k1 b3, hQ _ ⟨i1, i2, i3.off i2 k3, k2⟩⟩
theorem int128 {n : Nat} {v : zab} (hv : RSl t 1 (zf7 (l16 n)) v) (hl : (l16 n).length <= 1000) : pvC C30 F 128 [.agg [.bool false, v]] t = some (.tup [.int .i64 (if n < 9223372036854775808 then (n : Int) else 0), .int .i64 (if n < 9223372036854775808 then 0 else 3)]) := by
 have hvl := RSl.len (l := zf7 (l16 n)) hv
 rw [zgr] at hvl; have hlt := zei n
 have hval := zi6 n
 refine zzh (w128 ?_)
 unfold t128 uB uI; refine zam ?_
 rw [q123, zlu (by omega) hv, zaa, zgd (by omega)]
 refine zcf (zaz (by simp) (zah hvl (zaw ?_)))
 by_cases h4 : 4 < (l16 n).length
 ·have hbig : ¬ n < 9223372036854775808 := fun h => by
   have := zzco (n := n) (k := 4) (by rw [show (65536 : Nat) ^ 4 = 18446744073709551616 by decide]; omega)
   omega
  refine zag (by rw [zbu]; exact decide_eq_true (by omega)) ⟨?_, TLe.refl _⟩
  rw [yaa hbig, yaa hbig]
 ·have hn64 : n < 18446744073709551616 := by
   have := zg7 (B := 65536) (by omega) hlt
   rw [hval] at this; have h2 : 65536 ^ (l16 n).length <= 65536 ^ 4 := yao (by omega) (by omega)
   rw [show (65536 : Nat) ^ 4 = 18446744073709551616 by decide] at h2
   omega
  refine zaz (by rw [zbu]; simp; omega) (zau fun bx hbx hbase => ?_)
  obtain ⟨t1, e1, e2, e3, e4⟩ := zeh (C := C30) zmv hbx
  refine ⟨_, _, e1, zau fun b2 _ _ => ?_⟩
  obtain ⟨t2, g1, g2, g3⟩ := e2.store1 (v := .int .u64 0) hbase zmv rfl rfl rfl (j := 0) (by simp)
  refine ⟨_, _, g1 b2, ?_⟩
  have hS0 : z8l bx (.int .u64 ((val 65536 ((l16 n).drop (l16 n).length) : Nat) : Int)) t t2 := by
   rw [List.drop_length]; exact ⟨hbase, hbx, (TLe.refl t).off hbx e4 |>.off hbx g3, g2⟩
  refine zzd (S := fun k tf t => z8l bx (.int .u64 ((val 65536 ((l16 n).drop k) : Nat) : Int)) tf t) (fun k => z8l.framed) hv (by omega) hS0 (fun k x tf t Q1 hx hI hR => ?_) (fun tf' t' hle hI => ?_)
  ·have hk := (ybc.1 hx).1
   have hdrop : (l16 n).drop k = x :: (l16 n).drop (k + 1) := zcw hx
   have hd1 : val 65536 ((l16 n).drop (k + 1)) < 281474976710656 := by
    have h1 := zg7 (B := 65536) (by omega) (zpn hlt (k + 1))
    have h2 : 65536 ^ ((l16 n).drop (k + 1)).length <= 65536 ^ 3 := yao (by omega) (by rw [ydj]; omega)
    rw [show (65536 : Nat) ^ 3 = 281474976710656 by decide] at h2
    omega
   have hx16 : x < 65536 := hlt x (ycv hx)
   refine zzho hI hd1 hx16 fun t' h' => hR t' ?_
   have : val 65536 ((l16 n).drop k) = val 65536 ((l16 n).drop (k + 1)) * 65536 + x := by rw [hdrop, val]; omega
   rw [this]; exact h'
  ·obtain ⟨i1, i2, i3, i4⟩ := hI
   rw [ycr, hval] at i4; unfold uE; refine zaz (by simp) (zat (i4.load1 zmv rfl (j := 0) rfl) (zaw ?_))
   by_cases h63 : n < 9223372036854775808
   ·rw [yab h63, yab h63]
    refine zaz (by rw [zmb]; simp; omega) (zat (i4.load1 zmv rfl (j := 0) rfl) (zaw ⟨?_, hle.trans i3⟩))
    have : uW (n : Int) = (n : Int) := zan (by omega) (by omega)
    rw [this]
   ·rw [yaa h63, yaa h63]
    exact zag (by rw [zmb]; exact decide_eq_true (by omega)) ⟨rfl, hle.trans i3⟩
theorem zzbs {s : List Nat} (h : zcm s = false) : zyc s = s := by
 unfold zcm at h; unfold zyc zit; induction s with
 | nil => rfl
 | cons b s ih =>
  rw [List.contains_cons] at h; simp only [yal, beq_eq_false_iff_ne] at h; have hd : decide (b ≠ 47) = true := decide_eq_true fun e : b = 47 => h.1 e.symm
  rw [List.takeWhile_cons, hd, yab rfl, ih h.2]
theorem zzd7 : ∀ s : List Nat, zzig [47] s = if zcm s = true then some (zyc s, z0k s) else none := by
 intro s; induction s with
 | nil => rfl
 | cons b s ih =>
  have e : zqi [47] (b :: s) = Nat.beq 47 b := by
   show (bif Nat.beq 47 b then zqi [] s else false) = _
   have : zqi [] s = true := by cases s <;> rfl
   rw [this]
   cases Nat.beq 47 b <;> rfl
  unfold zzig; rw [e, ih]; unfold zcm z0k zyc zit; rw [List.contains_cons]
  cases hb : Nat.beq 47 b with
  | true =>
   have := zds.1 hb
   subst this; rw [cond_true, List.takeWhile_cons]; simp [ze3, za1]
  | false =>
   have hne : ¬ 47 = b := fun e => by rw [e, Nat.beq_refl] at hb; cases hb
   have hd : decide (b ≠ 47) = true := decide_eq_true fun e : b = 47 => hne e.symm
   rw [cond_false, List.takeWhile_cons, hd, yab rfl]; have : (47 == b) = false := by simp [hne]
   rw [this, Bool.false_or]; split
   ·simp
   ·rfl
theorem z3c {s : List Nat} (h : ∀ b ∈ s, zba b = true) (hl : s.length <= 200) : (l16 (ze6 s)).length <= 200 := by
 have h1 := zpi h
 have h2 : 10 ^ s.length <= 65536 ^ s.length := Nat.pow_le_pow_left (by omega) _
 have := zzco (n := ze6 s) (k := s.length) (by omega)
 omega
theorem intPv {s : List Nat} {neg : Bool} {lo hi : Int} (h : zws s) (hs : zcm s = false) (hlo : -4294967296 <= lo) (hhi : hi <= 4294967296) : ∃ i : Int, pvC C30 F 102 [.str s, .bool neg, .int .i64 lo, .int .i64 hi] t = some (.tup [.int .i64 i, .bool (zz8 s neg lo hi).isSome]) /\ ∀ j, zz8 s neg lo hi = some j -> i = j := by
 obtain ⟨h1, h2, h3, h4, _⟩ := h
 rw [zzbs hs] at h2 h3 h4; have hlen := z3c h2 h1
 generalize hn : ze6 s = n at hlen
 have core : ∀ R : zbo, (∀ t', TLe t t' -> n < 9223372036854775808 -> jp 102 15 [.int .i64 lo, .int .i64 hi, .int .i64 (if neg then -(n : Int) else n)] t' R) -> (∀ t', TLe t t' -> ¬ n < 9223372036854775808 -> R (.tup [.int .i64 0, .bool false]) t') -> Wc C30 F 102 [.str s, .bool neg, .int .i64 lo, .int .i64 hi] t R := by
  intro R k1 k2; refine w102 ?_
  unfold t102 uG uI; refine zam ?_
  rw [q99]; refine zwo h2 h3 h4 h1 fun t' u hle hu => ?_
  rw [hn] at hu; refine zah rfl (zbq (agW hu) (zah rfl (zaw (zag (zi7 hu.one) (zam ?_)))))
  rw [q128]; show zf8 (pvC C30 F 128 [.agg [.bool false, u]] t') _
  rw [int128 hu (by omega), zaa]
  refine zah rfl (zaw (zah rfl (zaw ?_)))
  by_cases h63 : n < 9223372036854775808
  ·rw [yab h63, yab h63]
   refine zaz (by decide) ?_
   have := k1 t' hle h63
   cases neg with
   | true =>
    refine zag rfl (za3 ?_)
    have e : uW (0 - (n : Int)) = -(n : Int) := by
     show zal .i64 (0 - (n : Int)) = _
     rw [zan (by omega) (by omega)]; omega
    rw [e]; exact this
   | false => exact zaz (by simp) (za3 this)
  ·rw [yaa h63, yaa h63]
   exact zag (by decide) (k2 t' hle h63)
 by_cases h63 : n < 9223372036854775808
 ·refine ⟨if neg then -(n : Int) else n, zzh (core _ (fun t' hle _ => ?_) fun t' _ hh => absurd h63 hh), fun j hj => ?_⟩
  ·refine zzm9 ?_
   unfold z99; unfold zz8; rw [hn]; generalize (if neg then -(n : Int) else n) = m
   show wp 102 _ t' _
   by_cases hl : lo <= m
   ·refine zag (by rw [zmb]; exact decide_eq_true hl) ⟨?_, hle⟩
    by_cases hh : m <= hi
    ·simp [hl, hh, zmb]
    ·simp [hl, hh, zmb]
   ·refine zaz (by rw [zmb]; simp; omega) ⟨?_, hle⟩
    simp [hl]
  ·unfold zz8 at hj
   rw [hn] at hj; generalize (if neg = true then -(n : Int) else (n : Int)) = m at hj ⊢
   have hj : (if lo <= m /\ m <= hi then some m else none) = some j := hj
   split at hj
   ·exact yci hj
   ·cases hj
 ·have hno : zz8 s neg lo hi = none := by
   unfold zz8; rw [hn]; simp only
   rw [yaa]
   cases neg with
   | true => simp only [if_true]; omega
   | false => simp only [ybq, if_false]; omega
  rw [hno]; exact ⟨0, zzh (core _ (fun t' _ hh => absurd hh h63) fun t' hle _ => ⟨rfl, hle⟩), fun j hj => by cases hj⟩
theorem fracPv {s : List Nat} {neg : Bool} {Q : zbo} (h : zws s) (hQ : ∀ t' cs, TLe t t' -> RD t' (zsj s neg).dd cs -> Q (.agg cs) t') : Wc C30 F 74 [.str s, .bool neg] t Q := by
 obtain ⟨h1, h2, h3, h4, h5⟩ := h
 have la : (zyc s).length <= s.length := by unfold zyc zit; exact (List.takeWhile_sublist _).length_le
 have main : ∀ b : List Nat, (∀ x ∈ b, zba x = true) -> b ≠ [] -> zd8 b = false -> b.length <= 200 -> 0 < ze6 b -> zsj s neg = zib neg (ze6 (zyc s)) (ze6 b) -> jp 74 9 [.bool neg, .str (zyc s), .str b, .bool false, .nilslice, .bool false, .nilslice] t Q := by
  intro b b1 b2 b3 b4 b5 hf; refine j74_9 ?_
  unfold t74_9 uG uI; refine zam ?_
  rw [q99]; refine zwo h2 h3 h4 (by omega) fun t1 u k1 k2 => ?_
  refine zah rfl (zbq (agW k2) (zah rfl (zaw (zag (zi7 k2.one) (zam ?_)))))
  rw [q99]; refine zwo b1 b2 b3 b4 fun t2 v m1 m2 => ?_
  refine zah rfl (zbq (agW m2) (zah rfl (zaw (zag (zi7 m2.one) (zam ?_)))))
  rw [q100]; have l1 := z3c h2 (by omega)
  have l2 := z3c b1 b4
  refine zzml (k2.mono m1) m2 l1 l2 b5 fun t3 cs p1 p2 => ?_
  obtain ⟨u3, v3, rfl, hu3, hv3⟩ := rd_frac p2
  refine zah rfl (zbq (agF hu3 hv3) (zah rfl (zaw (zag p2.all ?_))))
  cases neg with
  | true =>
   refine zag rfl (zam ?_)
   rw [q101]; refine neg_ok p2 l1 l2 b5 fun t4 cs4 r1 r2 => ?_
   obtain ⟨u4, v4, rfl, hu4, hv4⟩ := rd_frac r2
   refine zah rfl (zbq (agF hu4 hv4) (zah rfl (zaw (zag r2.all (zag r2.all ?_)))))
   refine hQ t4 _ (k1.trans (m1.trans (p1.trans r1))) ?_
   rw [hf]; exact r2
  | false =>
   refine zaz (by simp) (zag p2.all ?_)
   refine hQ t3 _ (k1.trans (m1.trans p1)) ?_
   rw [hf]; exact p2
 refine w74 ?_
 unfold t74 uS uB; refine zam ?_
 have hg : C30.prims.get 98 = some (zk9 pCut) := by kernel_rfl
 have hcut : pvC C30 F 98 [.str s, .str [47]] t = some (.tup [.str (if zcm s = true then zyc s else s), .str (if zcm s = true then z0k s else []), .bool (zcm s)]) := by
  refine zrv hg fun H => ?_
  show zaj (Nat.blt (zbf s) 4294967281) _ = _
  rw [za1, zdk.2 (by omega), zar, zzd7]
  cases zcm s <;> rfl
 rw [q98, hcut, zaa]; refine zah rfl (zcc (zah rfl (zcc (zah rfl (zcf ?_)))))
 cases hs : zcm s with
 | true =>
  obtain ⟨c1, c2, c3, c4⟩ := h5 hs
  refine zaz (by simp) (za3 ?_)
  simp only [if_true]; have lb : (z0k s).length <= s.length := by unfold z0k; rw [ydj]; omega
  refine main (z0k s) c2 c1 c3 (by omega) (zzic c2 c1 fun e => ?_) (by unfold zsj; rw [hs]; rfl)
  unfold zd8 at c3; rw [e] at c3; simp at c3; have : (z0k s).length = 1 := by have := List.length_pos_iff.2 c1; omega
  match hb : z0k s with
  | [] => exact c1 hb
  | [x] => rw [hb] at e; cases e; exact c4 hb
  | x :: y :: r => rw [hb] at this; simp at this
 | false =>
  refine zag rfl (za3 ?_)
  simp only [ybq, if_false]; have := main [49] (by decide) (by simp) (by decide) (by simp) (by decide) (by unfold zsj; rw [hs]; rfl)
  rwa [zzbs hs] at this
end
end Go.Proofs
namespace Go.Proofs
open Go Go.Am
variable [zb1]
section
variable {t : Tr zav} {Q : zbo}
theorem zzmw (y : Nat) : pvC C30 F 152 [.int .i64 (y : Int)] t = some (.bool (zzb8 y)) := by
 have e : ∀ k : Nat, Int.tmod (y : Int) (k : Int) = ((y % k : Nat) : Int) := fun k => by rw [Int.tmod_eq_emod_of_nonneg (by omega)]; omega
 refine zbg.2 (w152 ?_)
 unfold t152 uTr uFa; rw [show (4 : Int) = ((4 : Nat) : Int) from rfl, show (100 : Int) = ((100 : Nat) : Int) from rfl, show (400 : Int) = ((400 : Nat) : Int) from rfl, e, e, e]
 unfold zzb8; by_cases h4 : y % 4 = 0
 ·refine zag (by rw [zc0]; exact decide_eq_true (by omega)) ?_
  by_cases h1 : y % 100 = 0
  ·refine zaz (by rw [zc0]; simp; omega) ⟨?_, rfl⟩
   rw [zc0]; congr 1
   by_cases h5 : y % 400 = 0
   ·simp [h4, h1, h5]
   ·simp [h4, h1, h5]; omega
  ·refine zag (by rw [zc0]; simp; omega) ⟨?_, rfl⟩
   simp [h4, h1]
 ·refine zaz (by rw [zc0]; simp; omega) ⟨?_, rfl⟩
  simp [h4]
theorem z40 {y : Nat} (h : y < 1000000) : pvC C30 F 153 [.int .i64 (y : Int)] t = some (.int .i64 (zh5 y : Int)) := by
 have e : ∀ k : Nat, Int.tdiv (y : Int) (k : Int) = ((y / k : Nat) : Int) := fun k => by rw [Int.tdiv_eq_ediv_of_nonneg (by omega)]; omega
 refine zbg.2 (w153 ?_)
 unfold t153 uW; rw [show (4 : Int) = ((4 : Nat) : Int) from rfl, show (100 : Int) = ((100 : Nat) : Int) from rfl, show (400 : Int) = ((400 : Nat) : Int) from rfl, e, e, e]
 have h1 : y / 100 <= y / 4 := Nat.div_le_div_left (by omega) (by omega)
 have h2 : y / 4 <= y := Nat.div_le_self _ _
 have h3 : y / 400 <= y := Nat.div_le_self _ _
 simp (disch := omega) only [zan]
 refine ⟨?_, rfl⟩
 unfold zh5; congr 1
 omega
theorem zzmv (hg : zfc t) {i : Nat} (hi : i < 12) : zai C30 219 (.ptr 2 0) (.int .i64 (i : Int)) = some (.ptr 2 (0 + i)) /\ zao C30 3 ⟨0, t⟩ (.ptr 2 (0 + i)) = some (.int .i64 ((zzb6.getD i 0 : Nat) : Int)) := by
 refine ⟨?_, hg.2.2.load1 ty3 rfl ?_⟩
 ·unfold zai
  rw [ty219, zad]; have e : (zab.int .i64 (i : Int)).asNat = some i := rfl
  rw [e, zad]; simp only [zab.asSlice, zab.asPtr, zcy.asArr, zad]; rw [ty3, zad, zdk.2 hi, zar, Nat.mul_one]
 ·have : zzb6[i]? = some (zzb6.getD i 0) := by
   rw [List.getD_eq_getElem?_getD, ybd (by show i < 12; exact hi)]; rfl
  rw [ybu, this]; rfl
theorem zzj2 (hg : zfc t) (y m : Nat) (hm : m < 1000000) : pvC C30 F 136 [.int .i64 (y : Int), .int .i64 (m : Int)] t = some (.int .i64 (zle y m : Int)) := by
 refine zbg.2 (w136 ?_)
 unfold t136 uB; by_cases h1 : m < 1
 ·refine zag (by rw [zbu]; exact decide_eq_true (by omega)) ⟨?_, rfl⟩
  unfold zle; rw [yab (.inl h1)]; rfl
 refine zaz (by rw [zbu]; simp; omega) ?_
 by_cases h2 : 12 < m
 ·refine zag (by rw [zbu]; exact decide_eq_true (by omega)) ⟨?_, rfl⟩
  unfold zle; rw [yab (.inr h2)]; rfl
 refine zaz (by rw [zbu]; simp; omega) ?_
 have tail : ¬ (m = 2 /\ zzb8 y = true) -> wp 136 (uQ13 (m : Int)) t fun v' t' => v' = .int .i64 (zle y m : Int) /\ t' = t := by
  intro hn; unfold uQ13 uI; have e : uW ((m : Int) - 1) = ((m - 1 : Nat) : Int) := by
   show zal .i64 ((m : Int) - 1) = _
   rw [zan (by omega) (by omega)]; omega
  obtain ⟨k1, k2⟩ := zzmv hg (i := m - 1) (by omega)
  rw [e]; refine zah k1 (zat k2 (zaw ⟨?_, rfl⟩))
  unfold zle; rw [yaa (by omega), yaa hn]
 by_cases h3 : m = 2
 ·refine zag (by rw [zc0]; exact decide_eq_true (by omega)) (zam ?_)
  rw [q152, zzmw, zaa]; refine zcf ?_
  cases hl : zzb8 y with
  | true =>
   refine zag rfl ⟨?_, rfl⟩
   unfold zle; rw [yaa (by omega), yab ⟨h3, hl⟩]; rfl
  | false => exact zaz (by simp) (tail (by rw [hl]; simp))
 ·exact zaz (by rw [zc0]; simp; omega) (tail fun h => h3 h.1)
theorem zw1 (y m : Nat) : zle y m <= 31 := by
 unfold zle; split
 ·omega
 split
 ·omega
 ·rename_i h1 _
  have : m - 1 < 12 := by omega
  generalize m - 1 = k at this
  match k, this with
  | 0, _ | 1, _ | 2, _ | 3, _ | 4, _ | 5, _ | 6, _ | 7, _ | 8, _ | 9, _ | 10, _ | 11, _ => decide
theorem zuh (y : Nat) : ∀ k, zoz y k <= 31 * k := by
 intro k; induction k with
 | zero => exact ybk _
 | succ k ih => unfold zoz; have := zw1 y (k + 1); omega
theorem zz1 (y : Nat) : zh5 y <= y + y := by unfold zh5; omega
theorem z2p {a b : Nat} (h : a <= b) (hb : b < 10000) : zh5 a <= zh5 b := by unfold zh5; omega
theorem zwb (hg : zfc t) {m : Nat} (hm : m < 50000) : pvC C30 F 137 [.int .i64 (m : Int)] t = some (.int .i64 (zh1 m : Int)) := by
 have ed : Int.tdiv (m : Int) 12 = ((m / 12 : Nat) : Int) := by rw [Int.tdiv_eq_ediv_of_nonneg (by omega)]; omega
 have em : Int.tmod (m : Int) 12 = ((m % 12 : Nat) : Int) := by rw [Int.tmod_eq_emod_of_nonneg (by omega)]; omega
 refine zbg.2 (w137 ?_)
 unfold t137 uI uW; rw [ed]; have hq : m / 12 < 5000 := by omega
 have e1 : zal .i64 (zal .i64 (1900 + zal .i64 ((m / 12 : Nat) : Int)) - 1) = ((1899 + m / 12 : Nat) : Int) := by
  simp (disch := omega) only [zan]; omega
 have e2 : zal .i64 (1900 + zal .i64 ((m / 12 : Nat) : Int)) = ((1900 + m / 12 : Nat) : Int) := by
  simp (disch := omega) only [zan]; omega
 have hl1 := zz1 (1899 + m / 12)
 have hl2 := z2p (a := 1899) (b := 1899 + m / 12) (by omega) (by omega)
 refine zam ?_
 rw [e1, q153, z40 (by omega), zaa]
 refine zaw (zam ?_)
 rw [q153, show (1899 : Int) = ((1899 : Nat) : Int) from rfl, z40 (by omega), zaa, e2]
 refine zaw (za3 ?_)
 have e3 : zal .i64 (zal .i64 (zal .i64 (365 * zal .i64 (((1900 + m / 12 : Nat) : Int) - 1900)) + (zh5 (1899 + m / 12) : Int)) - (zh5 1899 : Int)) = ((365 * (m / 12) + zh5 (1899 + m / 12) - zh5 1899 : Nat) : Int) := by
  simp (disch := omega) only [zan]; omega
 rw [e3]; have loop : ∀ (k i a : Nat), i + k = m % 12 -> a = 365 * (m / 12) + zh5 (1899 + m / 12) - zh5 1899 + zoz (1900 + m / 12) i -> jp 137 2 [.int .i64 (m : Int), .int .i64 ((1900 + m / 12 : Nat) : Int), .int .i64 (a : Int), .int .i64 ((i + 1 : Nat) : Int)] t fun v' t' => v' = .int .i64 (zh1 m : Int) /\ t' = t := by
  intro k; induction k with
  | zero =>
   intro i a hi ha; refine zzkk ?_
   unfold z92; rw [em]; refine zaz (by rw [zmb]; simp; omega) ⟨?_, rfl⟩
   subst ha; unfold zh1; rw [show i = m % 12 by omega]
  | succ k ih =>
   intro i a hi ha; have hs := zuh (1900 + m / 12) i
   have hle := zw1 (1900 + m / 12) (i + 1)
   refine zzkk ?_
   unfold z92 uI; rw [em]; refine zag (by rw [zmb]; exact decide_eq_true (by omega)) (zam ?_)
   rw [q136]; show zf8 (pvC C30 F 136 [.int .i64 ((1900 + m / 12 : Nat) : Int), .int .i64 ((i + 1 : Nat) : Int)] t) _
   rw [zzj2 hg _ _ (by omega), zaa]
   refine zaw (za3 ?_)
   have e4 : uIn ((i + 1 : Nat) : Int) = .int .i64 ((i + 1 + 1 : Nat) : Int) := by
    show zab.int .i64 (zal .i64 (((i + 1 : Nat) : Int) + 1)) = _
    rw [zan (by omega) (by omega)]; rfl
   have e5 : uW ((a : Int) + (zle (1900 + m / 12) (i + 1) : Int)) = ((a + zle (1900 + m / 12) (i + 1) : Nat) : Int) := by
    show zal .i64 _ = _
    rw [zan (by omega) (by omega)]; omega
   rw [e4, e5]; exact ih (i + 1) _ (by omega) (by show a + zle (1900 + m / 12) (i + 1) = _ + (zoz (1900 + m / 12) i + zle (1900 + m / 12) (i + 1)); omega)
 exact loop (m % 12) 0 _ (by omega) rfl
theorem day_ok (hg : zfc t) {y m d : Nat} (hy : y < 10000) (hm : m < 1000) (hd : d < 1000) : pvC C30 F 119 [.int .i64 (y : Int), .int .i64 (m : Int), .int .i64 (d : Int)] t = some (.tup [.int .i64 (((zznz y m d).getD 0 : Nat) : Int), .int .i64 (if (zznz y m d).isSome then 0 else 2)]) := by
 refine zbg.2 (w119 ?_)
 unfold t119 uI uB; have bad : ∀ h : y < 1900 \/ 2079 < y \/ d < 1 \/ zle y m < d, zznz y m d = none := fun h => by unfold zznz; rw [yab h]
 by_cases h1 : y < 1900
 ·rw [bad (.inl h1)]
  exact zag (by rw [zbu]; exact decide_eq_true (by omega)) ⟨rfl, rfl⟩
 refine zaz (by rw [zbu]; simp; omega) ?_
 by_cases h2 : 2079 < y
 ·rw [bad (.inr (.inl h2))]
  exact zag (by rw [zbu]; exact decide_eq_true (by omega)) ⟨rfl, rfl⟩
 refine zaz (by rw [zbu]; simp; omega) ?_
 by_cases h3 : d < 1
 ·rw [bad (.inr (.inr (.inl h3)))]
  exact zag (by rw [zbu]; exact decide_eq_true (by omega)) ⟨rfl, rfl⟩
 refine zaz (by rw [zbu]; simp; omega) (zam ?_)
 rw [q136]; show zf8 (pvC C30 F 136 [.int .i64 (y : Int), .int .i64 (m : Int)] t) _
 rw [zzj2 hg _ _ (by omega), zaa]
 refine zaw ?_
 by_cases h4 : zle y m < d
 ·rw [bad (.inr (.inr (.inr h4)))]
  exact zag (by rw [zbu]; exact decide_eq_true (by omega)) ⟨rfl, rfl⟩
 refine zaz (by rw [zbu]; simp; omega) (zam ?_)
 have hm1 : 1 <= m := by
  rcases yau m 1 with h | h
  ·exfalso; apply h4; unfold zle; rw [yab (.inl h)]; omega
  ·exact h
 have hs31 := zw1 y m
 have e1 : uW (uW (uW (12 * uW ((y : Int) - 1900)) + (m : Int)) - 1) = ((12 * (y - 1900) + m - 1 : Nat) : Int) := by
  unfold uW; simp (disch := omega) only [zan]; omega
 rw [q137]; show zf8 (pvC C30 F 137 [.int .i64 (uW (uW (uW (12 * uW ((y : Int) - 1900)) + (m : Int)) - 1))] t) _
 rw [e1, zwb hg (by omega), zaa]
 refine zaw (zam ?_)
 have hst : zh1 (12 * (y - 1900) + m - 1) < 1000000 := by
  unfold zh1; have := zuh (1900 + (12 * (y - 1900) + m - 1) / 12) ((12 * (y - 1900) + m - 1) % 12)
  have := zz1 (1899 + (12 * (y - 1900) + m - 1) / 12)
  omega
 have e2 : uW (uW ((zh1 (12 * (y - 1900) + m - 1) : Int) + (d : Int)) - 1) = ((zh1 (12 * (y - 1900) + m - 1) + d - 1 : Nat) : Int) := by
  unfold uW; simp (disch := omega) only [zan]; omega
 rw [e2]; have hn : zznz y m d = if zh1 (12 * (y - 1900) + m - 1) + d - 1 < 65536 then some (zh1 (12 * (y - 1900) + m - 1) + d - 1) else none := by
  unfold zznz; rw [yaa (by omega)]
 have hisd : pvC C30 F 138 [.int .i64 ((zh1 (12 * (y - 1900) + m - 1) + d - 1 : Nat) : Int)] t = some (.bool (decide (zh1 (12 * (y - 1900) + m - 1) + d - 1 < 65536))) := by
  refine zbg.2 (w138 ?_)
  unfold t138; generalize zh1 (12 * (y - 1900) + m - 1) + d - 1 = z
  refine zag (by rw [zmb]; exact decide_eq_true (by omega)) ⟨?_, rfl⟩
  have hz : iLt (z : Int) 65536 = decide (z < 65536) := by
   rw [zbu]; exact decide_eq_decide.2 (by omega)
  rw [hz]
 rw [q138, hisd, zaa, hn]; refine zcf ?_
 by_cases h5 : zh1 (12 * (y - 1900) + m - 1) + d - 1 < 65536
 ·rw [yab h5, decide_eq_true h5]
  exact zaz (by simp) ⟨rfl, rfl⟩
 ·rw [yaa h5, decide_eq_false h5]
  exact zag rfl ⟨rfl, rfl⟩
theorem z6x {ls : List (List Nat)} {v : zab} (hv : RSl t 1 (ls.map D.str) v) (hl : ls.length < 100) (hd : ∀ s ∈ ls, s.length <= 9 /\ ∀ b ∈ s, zba b = true) (hQ : ∀ t' b, TLe t t' -> Own t' b .i64 (ls.map ze6) -> Q (.tup [.slice b 0 ls.length ls.length, .bool true]) t') : Wc C30 F 118 [v] t Q := by
 have hlen := hv.len
 rw [ybf] at hlen; refine w118 ?_
 unfold t118 uI; refine zah hlen (zaw (zau fun b hb hbase => ?_))
 obtain ⟨t1, e1, e2, e3, e4⟩ := zkb (C := C30) (T := 94) (k := .i64) (n := ls.length) ty94 rfl ty3 rfl rfl (by decide) (by omega) hb
 refine ⟨_, _, e1, zah hlen (zaw (za3 ?_))⟩
 have loop : ∀ (k i : Nat) (row : List Nat) (t1 : Tr zav), i + k = ls.length -> row = (ls.take i).map ze6 ++ List.replicate k 0 -> TLe t t1 -> Own t1 b .i64 row -> jp 118 2 [.slice b 0 ls.length ls.length, v, .int .i64 (ls.length : Int), .int .i64 (i : Int)] t1 Q := by
  intro k; induction k with
  | zero =>
   intro i row t1 hi hr hle ho; refine zzkn ?_
   unfold z95; refine zaz (by rw [zbu]; simp; omega) ?_
   rw [show i = ls.length by omega, List.take_length, List.replicate_zero, ycd] at hr; subst hr; exact hQ t1 b hle ho
  | succ k ih =>
   intro i row t1 hi hr hle ho; refine zzkn ?_
   unfold z95 uS; have hx : ls[i]? = some ls[i] := ybd (by omega)
   have hxd : (ls.map D.str)[i]? = some (D.str ls[i]) := by rw [ybu, hx]; rfl
   obtain ⟨b', o', cs, h1, h2, _, _, h3⟩ := sl93.at (fun _ => rfl) (hv.mono hle) hxd
   have e := zvr.1 h3
   subst e; refine zag (by rw [zbu]; exact decide_eq_true (by omega)) (zah h1 (zat h2 (zcc (za3 ?_))))
   have ll : (Int.ofNat (zbf ls[i])) = (ls[i].length : Int) := by rw [za1]; rfl
   rw [ll]; obtain ⟨hs9, hsd⟩ := hd ls[i] (ycj _)
   have inner : ∀ (q j : Nat) (t2 : Tr zav), j + q = ls[i].length -> TLe t t2 -> Own t2 b .i64 ((ls.take i).map ze6 ++ ze6 (ls[i].take j) :: List.replicate k 0) -> jp 118 6 [.slice b 0 ls.length ls.length, .int .i64 (i : Int), .str ls[i], v, .int .i64 (ls.length : Int), .int .i64 (i : Int), .int .i64 (ls[i].length : Int), .int .i64 (j : Int)] t2 Q := by
    intro q; induction q with
    | zero =>
     intro j t2 hj hle2 ho2; refine zzkm ?_
     unfold z94; refine zaz (by rw [zbu]; simp; omega) (za3 ?_)
     have e4 : uIn (i : Int) = .int .i64 ((i + 1 : Nat) : Int) := by
      show zab.int .i64 (zal .i64 ((i : Int) + 1)) = _
      rw [zan (by omega) (by omega)]; rfl
     rw [e4]; refine ih (i + 1) _ t2 (by omega) ?_ hle2 ho2
     have htk : ls.take (i + 1) = ls.take i ++ [ls[i]] := by rw [ydg, hx]; rfl
     rw [htk, List.map_append, show j = ls[i].length by omega, List.take_length]; simp
    | succ q ih2 =>
     intro j t2 hj hle2 ho2; have hy : ls[i][j]? = some ls[i][j] := ybd (by omega)
     have hyd : 48 <= ls[i][j] /\ ls[i][j] <= 57 := by have := hsd ls[i][j] (ycj _); unfold zba at this; simpa using this
     refine zzkm ?_
     unfold z94 uU uI; have hla : ((ls.take i).map ze6).length = i := by simp; omega
     have hget : ((ls.take i).map ze6 ++ ze6 (ls[i].take j) :: List.replicate k 0)[i]? = some (ze6 (ls[i].take j)) := by
      rw [ybp (by omega), hla, Nat.sub_self]; rfl
     have ia := zc4 (C := C30) (b := b) sl94 (off := 0) (n := ls.length) (cap := ls.length) (i := i) (by omega)
     rw [ybw, Nat.mul_one] at ia; have hb9 : ze6 (ls[i].take j) < 1000000000 := by
      have h1 := zpi (s := ls[i].take j) fun x hx => hsd x (List.mem_of_mem_take hx)
      have h2 : 10 ^ (ls[i].take j).length <= 10 ^ 9 := yao (by omega) (by rw [yda]; omega)
      have : (10 : Nat) ^ 9 = 1000000000 := by decide
      omega
     refine zag (by rw [zbu]; exact decide_eq_true (by omega)) (zah (zcl hy) (zaw (zaz (by rw [zbu]; simp; omega) (zah (zcl hy) (zaw (zaz (by rw [zbu]; simp; omega) (zah ia (zat (ho2.load hget ty3 rfl) (zaw (zah (zcl hy) (zaw (zah ia (zau fun n _ _ => ?_)))))))))))))
     have ev : uW (uW (10 * ((ze6 (ls[i].take j) : Nat) : Int)) + uW (zal .u8 ((ls[i][j] : Int) - 48))) = ((ze6 (ls[i].take (j + 1)) : Nat) : Int) := by
      unfold uW; rw [zvu (by omega) (by omega), zdd hy, zoi]
      simp (disch := omega) only [zan]
      omega
     obtain ⟨t3, g1, g2, g3⟩ := ho2.store hbase (j := i) (by simp; omega) (ze6 (ls[i].take (j + 1))) ty3 rfl
     rw [ev]; refine ⟨_, _, g1 n, za3 ?_⟩
     have e4 : uIn (j : Int) = .int .i64 ((j + 1 : Nat) : Int) := by
      show zab.int .i64 (zal .i64 ((j : Int) + 1)) = _
      rw [zan (by omega) (by omega)]; rfl
     rw [e4]; refine ih2 (j + 1) t3 (by omega) (hle2.off hb g3) ?_
     have : ((ls.take i).map ze6 ++ ze6 (ls[i].take j) :: List.replicate k 0).set i (ze6 (ls[i].take (j + 1))) = (ls.take i).map ze6 ++ ze6 (ls[i].take (j + 1)) :: List.replicate k 0 := zzgj hla
     rw [this] at g2; exact g2
   refine inner ls[i].length 0 t1 (by omega) hle ?_
   rw [hr, List.replicate_succ] at ho; exact ho
 refine loop ls.length 0 _ t1 (by omega) ?_ e3 e2
 simp
theorem zzah {s : List Nat} {a b : Nat} (h : a <= b) (hb : b <= s.length) : zcb C30 9 H0A (.str s) (some (.int .i64 (a : Int))) (some (.int .i64 (b : Int))) = some (.str ((s.take b).drop a)) := by
 unfold zcb zga; rw [ty9, zad]; simp only [zab.asStr]; rw [show zcy.isString .string = true from rfl, zar]; unfold zni zfj zom zlp; have e : ∀ n : Nat, zjq (n : Int) = some n := fun _ => rfl
 simp only [zad, zab.asNat, zab.asInt, e, za1, zg3.2 hb, zg3.2 h, zar, zfz, ze3]
theorem zsw {s : List Nat} (h : zdf s = true) {i : Nat} (hi : i < 10) : ∃ b, s[i]? = some b /\ zgb i b = true := by
 unfold zdf at h; simp only [ybb, decide_eq_true_eq, ycb, List.mem_range] at h; have h1 := h.2 i hi
 refine ⟨s[i]'(by omega), ybd (by omega), ?_⟩
 rw [List.getD_eq_getElem?_getD, ybd (by omega)] at h1
 exact h1
theorem zsx {s : List Nat} (h : zdf s = true) {a b : Nat} (hb : b <= 10) (h4 : ¬ (a <= 4 /\ 4 < b)) (h7 : ¬ (a <= 7 /\ 7 < b)) : ∀ x ∈ (s.take b).drop a, zba x = true := by
 intro x hx; obtain ⟨j, hj⟩ := List.getElem?_of_mem hx
 rw [yde, ydf] at hj; split at hj
 ·rename_i hlt
  obtain ⟨y, h1, h2⟩ := zsw h (i := a + j) (by omega)
  rw [h1] at hj
  cases hj; unfold zgb at h2; rw [yaa (by omega)] at h2
  exact h2
 ·cases hj
theorem zzd6 (hg : zfc t) {s : List Nat} (hs : s.length = 10) (hd : zdf s = true) : pvC C30 F 97 [.str s] t = some (.tup [.int .i64 (((zzid s).getD 0 : Nat) : Int), .int .i64 (if (zzid s).isSome then 0 else 2)]) := by
 refine zzh (w97 ?_)
 unfold t97 uU uS uB uI; have ll : (Int.ofNat (zbf s)) = 10 := by rw [za1, hs]; rfl
 rw [ll]; obtain ⟨x4, g4, k4⟩ := zsw hd (i := 4) (by omega)
 obtain ⟨x7, g7, k7⟩ := zsw hd (i := 7) (by omega)
 have k4 : x4 = 45 := by simpa [zgb] using k4
 have k7 : x7 = 45 := by simpa [zgb] using k7
 subst k4 k7
 have i4 := zcl g4
 have i7 := zcl g7
 have s0 := zj4 (s := s) (k := 4) (by omega)
 have s5 := zzah (s := s) (a := 5) (b := 7) (by omega) (by omega)
 have s8 := zqp (s := s) (k := 8) (by omega)
 refine zaz (by decide) (zah i4 (zaw (zaz (by decide) (zah i7 (zaw (zaz (by decide) (zah s0 (zcc (zah s5 (zcc (zah s8 (zcc (zau fun b hb hbase => ?_)))))))))))))
 obtain ⟨t1, g1, g2, g3, g5⟩ := zld (C := C30) (T := 93) (el := 9) (sz := 1) (n := 3) (cl := [[.str (s.take 4)], [.str ((s.take 7).drop 5)], [.str (s.drop 8)]]) (ps := [(0, .str (s.take 4)), (1, .str ((s.take 7).drop 5)), (2, .str (s.drop 8))]) ty93 rfl ty9 rfl rfl (by decide) rfl (fun i cs hi => by
  match i, hi with
  | 0, hi => cases hi; rfl
  | 1, hi => cases hi; rfl
  | 2, hi => cases hi; rfl) rfl hb
 have hr : RSl t1 1 ([s.take 4, (s.take 7).drop 5, s.drop 8].map D.str) (.slice b 0 3 3) := ⟨_, g2, zcg.2 ⟨_, _, rfl, zvr.2 rfl, zcg.2 ⟨_, _, rfl, zvr.2 rfl, zcg.2 ⟨_, _, rfl, zvr.2 rfl, zdl.2 rfl⟩⟩⟩⟩
 have d1 : ∀ x ∈ s.take 4, zba x = true := by
  have := zsx hd (a := 0) (b := 4) (by omega) (by omega) (by omega)
  simpa using this
 have d2 : ∀ x ∈ (s.take 7).drop 5, zba x = true := zsx hd (by omega) (by omega) (by omega)
 have d3 : ∀ x ∈ s.drop 8, zba x = true := by
  have := zsx hd (a := 8) (b := 10) (by omega) (by omega) (by omega)
  rwa [yca (by omega)] at this
 refine ⟨_, _, g1, zam ?_⟩
 rw [q118]; refine z6x hr (by simp) (fun x hx => ?_) fun t2 b2 h1 h2 => ?_
 ·simp only [ybs, List.mem_nil_iff, or_false] at hx
  rcases hx with rfl | rfl | rfl
  ·exact ⟨by simp; omega, d1⟩
  ·exact ⟨by simp; omega, d2⟩
  ·exact ⟨by simp; omega, d3⟩
 have ia : ∀ i : Nat, i < 3 -> zai C30 94 (.slice b2 0 3 3) (.int .i64 (i : Int)) = some (.ptr b2 i) := fun i hi => by
  have := zc4 (C := C30) (b := b2) sl94 (off := 0) (n := 3) (cap := 3) (i := i) hi
  rwa [ybw, Nat.mul_one] at this
 have l0 := h2.load (j := 0) rfl ty3 rfl (C := C30)
 have l1 := h2.load (j := 1) rfl ty3 rfl (C := C30)
 have l2 := h2.load (j := 2) rfl ty3 rfl (C := C30)
 refine zah rfl (zah rfl (zcf (zaz (by simp) (zah (ia 0 (by omega)) (zat l0 (zaw (zah (ia 1 (by omega)) (zat l1 (zaw (zah (ia 2 (by omega)) (zat l2 (zaw (zam ?_)))))))))))))
 have b1 := zpi d1
 have b2' := zpi d2
 have b3 := zpi d3
 have n1 : (s.take 4).length = 4 := by simp; omega
 have n2 : ((s.take 7).drop 5).length = 2 := by simp; omega
 have n3 : (s.drop 8).length = 2 := by simp; omega
 rw [n1] at b1; rw [n2] at b2'
 rw [n3] at b3; have hle := g3.trans h1
 rw [q119]; show zf8 (pvC C30 F 119 [.int .i64 ((ze6 (s.take 4) : Nat) : Int), .int .i64 ((ze6 ((s.take 7).drop 5) : Nat) : Int), .int .i64 ((ze6 (s.drop 8) : Nat) : Int)] t2) _
 rw [day_ok (hg.mono hle) (by omega) (by omega) (by omega), zaa]
 exact zah rfl (zaw (zah rfl (zaw ⟨rfl, hle⟩)))
theorem lib30 : zze9 where
 frac := fun {s neg tf t L Q} h ho hQ => Wc.objs (R := fun v tf' => ∃ cs, v = .agg cs /\ RD tf' (zsj s neg).dd cs) (fracPv h fun t' cs h1 h2 => ⟨h1, cs, rfl, h2⟩) ho fun v tf' t' h1 h2 ⟨cs, h3, h4⟩ => by subst h3; exact hQ tf' t' cs h1 h2 h4
 int := fun h1 h2 h3 h4 => intPv h1 h2 h3 h4
 date := fun hg ⟨h1, h2, n, h3⟩ => by rw [zzd6 hg h1 h2, h3]; rfl
end
end Go.Proofs
namespace Go.Proofs
open Go Go.Am
variable [zb1]
section
variable {P : z8a} {tf t : Tr zav} {Q E : zbo}
theorem zzlp (h : St P tf t 0 0) (hk : Ok P rdXV 0 tf (zya P.tk) Q E) : WcE C30 F E 46 [.ptr P.bp 0] t Q := by
 refine w46 _ ?_
 unfold t46; refine zam ?_
 rw [pE 47]; unfold zya at hk; refine zzik lib30 h (hk.bind fun x n1 tf1 t1 v hr hle hst hrd hk1 => ?_)
 cases x with
 | none =>
  have hrd : v = .tup [.agg zV, .bool false] := hrd
  subst hrd; refine zah (v := .agg zV) rfl (zbq (X := cellsOf zV) (zg4 rfl) (zah (v := .bool false) rfl (zcf (zag (by kernel_rfl) (zag rfl (zam ?_))))))
  rw [pE 48]; exact Ok.fail hst hk1
 | some x =>
  obtain ⟨cs, rfl, hx⟩ := hrd
  refine zah (v := .agg cs) rfl (zbq (agV hx) (zah (v := .bool true) rfl (zcf ?_)))
  rw [show [zab.int .u8 ((cellsOf cs).i 0), .bool ((cellsOf cs).b 1), (cellsOf cs).v 2, .bool ((cellsOf cs).b 3), (cellsOf cs).v 4, .int .i64 ((cellsOf cs).i 5)] = cs from zzio hx]
  have hall : zfh zab.one cs = true := by
   obtain ⟨a, b, rfl, _⟩ := znm hx
   exact hx.all
  refine zag hall (zaz (by simp) (zam ?_))
  rw [pE 43]; refine zzmg hst (hk1.bind fun a n2 tf2 t2 v2 hr2 hl2 hst2 hrd2 hk2 => ?_)
  exact zag hall (Ok.now hk2 hst2 ⟨cs, rfl, hx.mono hl2⟩)
end
end Go.Proofs
namespace Go.Am
open Go Go.RowKit
structure z8f (C : Ctx) (F : Tr zfs) (f : Nat) (fn : Func) (kf : Nat) (A : zfs) (l : List zbb) (q : z09) (fc : Func) (kc : Nat) (Ac : zfs) (qc : ClQ) : Prop where
 isF : F.get f = some A
 isFn : C.fns.get f = some fn
 isK : C.ks.get f = some kf
 prim : C.prims.get f = none
 lt : Nat.blt f yo = true
 body : za4 fn.body = false
 split : zk6 A.code = some (l, q)
 isC : F.get q.cl = some Ac
 isFc : C.fns.get q.cl = some fc
 isKc : C.ks.get q.cl = some kc
 primC : C.prims.get q.cl = none
 bodyC : za4 fc.body = false
 clo : zzn6 Ac.code = some qc
 ok : (zzei fn.results.toList q.o6.toList && (Nat.ble kf q.d && Nat.blt q.d fn.ntmps)) = true
 okC : (Nat.ble (zbf q.bs) kc && Nat.ble (zbf q.bs) fc.ntmps) = true
 okD : Nat.blt qc.d fc.ntmps = true
 rng : zcs (zzfd l) = []
 rngC : zcs qc.c = []
def defB (C : Ctx) (F : Tr zfs) (f : Nat) (fn : Func) (kf : Nat) (A : zfs) (l : List zbb) (q : z09) (fc : Func) (kc : Nat) (Ac : zfs) (qc : ClQ) : Bool :=
 za4 (C.prims.get f) && Nat.blt f yo && !za4 fn.body && za4 (C.prims.get q.cl) && !za4 fc.body && (zzei fn.results.toList q.o6.toList && (Nat.ble kf q.d && Nat.blt q.d fn.ntmps)) &&
  (Nat.ble (zbf q.bs) kc && Nat.ble (zbf q.bs) fc.ntmps) && Nat.blt qc.d fc.ntmps && (match zcs (zzfd l) with | [] => true | _ => false) && (match zcs qc.c with | [] => true | _ => false)
section
variable {C : Ctx} {F : Tr zfs} {f : Nat} {fn fc : Func} {kf kc : Nat} {A Ac : zfs} {l : List zbb} {q : z09} {qc : ClQ} {pure pan : Nat -> Bool} {t : Tr zav} {Q : zbo}
theorem z8f.of (h1 : F.get f = some A) (h2 : C.fns.get f = some fn) (h3 : C.ks.get f = some kf) (h4 : zk6 A.code = some (l, q)) (h5 : F.get q.cl = some Ac) (h6 : C.fns.get q.cl = some fc) (h7 : C.ks.get q.cl = some kc) (h8 : zzn6 Ac.code = some qc) (h : defB C F f fn kf A l q fc kc Ac qc = true) : z8f C F f fn kf A l q fc kc Ac qc := by
 unfold defB at h; simp only [ybb] at h; obtain ⟨⟨⟨⟨⟨⟨⟨⟨⟨g1, g2⟩, g3⟩, g4⟩, g5⟩, g6⟩, g7⟩, g8⟩, g9⟩, g10⟩ := h
 have nn : ∀ {α : Type} {x : Option α}, za4 x = true -> x = none := fun {α} {x} h => by cases x with | none => rfl | some _ => cases h
 refine ⟨h1, h2, h3, nn g1, g2, by simpa using g3, h4, h5, h6, h7, nn g4, by simpa using g5, h8, by simp only [ybb]; exact g6, by simp only [ybb]; exact g7, g8, ?_, ?_⟩
 ·split at g9
  ·assumption
  ·cases g9
 ·split at g10
  ·assumption
  ·cases g10
theorem zzed (h : F.get f = some A) : (za6 F).get f = some A.code := by unfold za6; rw [Tr.get_mapT, h]; rfl
theorem zvc {args : List zab} {d : Bool} (h2 : C.fns.get f = some fn) (h3 : C.ks.get f = some kf) (hb : za4 fn.body = false) (hl : (Nat.ble (zbf args) kf && Nat.ble (zbf args) fn.ntmps) = true) : ∃ g, zeg C f args d = some g /\ g.tm = ⟨kf, Tr.ofList args, []⟩ := by
 obtain ⟨body, hb⟩ : ∃ b, fn.body = some b := by
  cases hx : fn.body with
  | none => rw [hx] at hb; cases hb
  | some b => exact ⟨b, rfl⟩
 refine ⟨_, by unfold zeg; rw [h2, zad, hb, zad, h3, zad, hl]; rfl, rfl⟩
theorem ROk.nil {A : Tr zbb} {E : zbo} {c : zbb} (h : zcs c = []) : ROk A E f c := fun q hq => by rw [h] at hq; cases hq
theorem JOk.nil {base : Nat} {E : zbo} {J : zd3} {L : List PtD} (h : L = []) : JOk base kf E J L := fun d hd => by rw [h] at hd; cases hd
theorem st_of {base : Nat} {X : Xt} {tm : Tm} {HA : zaf} (ho : Ov base t X HA) (hk : tm.k = kf) : zdc base X kf (fun i => i) X ⟨tm, [], .leaf, []⟩ tm HA t :=
 ⟨ho, XLe.refl _, hk, hk, fun _ _ h => h, fun _ _ h => (by cases h), fun d l h => (by rw [show (Tr.leaf : Tr (List zab)).get d = none from Tr.get_leaf _] at h; cases h), fun d _ l _ h => (by rw [show (Tr.leaf : Tr (List zab)).get d = none from Tr.get_leaf _] at h; cases h)⟩
theorem zzn5 (h : z8f C F f fn kf A l q fc kc Ac qc) {p : PI} {cells : List zab} {v : zab} {W J : zd3} {E : zbo} (hW : zhc C (za6 F) E W) (hY : zx3 C (za6 F) W) (hpts : ∀ κ, zde C (fnV C (za6 F)) q.cl fc.ntmps qc.c κ = []) {vals : List zab} (hl : zbf cells = zbf q.bs)
  (hv : zrc p ⟨clTm fc.ntmps qc ⟨kc, Tr.ofList cells, []⟩ v, [], .leaf, []⟩ = some vals) {R : zbo} (hw : wpT C.base W J (ztr C Ac.la q.cl fc.ntmps qc.c (zzi9 C fc) (ztv kc p vals)) t R) : ∀ X HA, Ov C.base t X HA -> Res C.base X E R (zok C (za6 F) (fnV C (za6 F)) q.cl cells v HA) := by
 intro X HA ho; obtain ⟨g, h1, h2⟩ := zvc (args := cells) (d := true) h.isFc h.isKc h.bodyC (by rw [hl]; exact h.okC)
 unfold zok; refine Res.ob h.isFc (Res.ob (zzed h.isC) (Res.ob h.clo ?_))
 have hg : (za4 (C.prims.get q.cl) && Nat.blt qc.d fc.ntmps) = true := by rw [h.primC, h.okD]; rfl
 rw [hg]; show Res C.base X E R (ob (zeg C q.cl cells true) _)
 refine Res.ob h1 ?_
 rw [h2]; have hst : zdc C.base X kc (fun i => i) X ⟨clTm fc.ntmps qc ⟨kc, Tr.ofList cells, []⟩ v, [], .leaf, []⟩ (clTm fc.ntmps qc ⟨kc, Tr.ofList cells, []⟩ v) HA t := st_of ho (by unfold clTm; rw [zpx, zpx]; rfl)
 exact zk2 hW hY qc.c (zzi9 C fc) (zyt C fc) (ROk.nil h.rngC) (fun _ => z1l) (JOk.nil (hpts _)) _ _ _ _ _ _ _ (hst.at hv) hw
def z04 (C : Ctx) (F : Tr zfs) (pure pan : Nat -> Bool) (f : Nat) (fn : Func) (kf : Nat) (A : zfs) (q : z09) (p : PI) (vals : List zab) (t : Tr zav) (Q : zbo) : Prop :=
 ∃ cells, ∃ E : zbo, evs q.bs (.now (ztv kf p vals).tm.cut) = some cells /\ (∀ HA, zok C (za6 F) (fnV C (za6 F)) q.cl cells .niliface HA = some (⟨.tup [], false⟩, HA)) ∧
  (∀ v t', E v t' -> ∀ X HA, Ov C.base t' X HA -> Res C.base X noP (fun _ t'' => wpT C.base (Wq C F pure) (fun _ _ _ _ => False) (endT C fn (ztv kf p vals).cut) t'' Q) (zok C (za6 F) (fnV C (za6 F)) q.cl cells v HA)) ∧
  wpT C.base (WqE C F pure pan E) (fun _ _ _ _ => False) (ztr C A.la f fn.ntmps (.region q.i6 q.o6 false) ⟨endT C fn, fun _ _ => .fail, fun _ => .fail⟩ (ztv kf p vals)) t Q
theorem zzlr (h : z8f C F f fn kf A l q fc kc Ac qc) {p : PI} (hp : p.ll = []) {vals : List zab} (hpn : pure pn = false) (ht : z04 C F pure pan f fn kf A q p vals t Q) {X0 X : Xt} {HA : zaf} {tm : Tm} {ν : Nat -> Nat} (hst : zdc C.base X0 kf ν X (ztv kf p vals) tm HA t) :
  Res C.base X0 noP Q (zmx C (za6 F) (fnV C (za6 F)) fn q tm HA) := by
 obtain ⟨cells, E, h1, h2, h3, h4⟩ := ht
 have hend : ∀ tm' H', zt2 C (za6 F) (fnV C (za6 F)) fn q.cl cells .niliface tm' H' = z8j C fn tm' H' := by
  intro tm' H'; unfold zt2; rw [h2]; rfl
 unfold zmx; rw [hst.kA, h.ok]; show Res C.base X0 noP Q (ob (evs q.bs (.now tm.cut)) _)
 refine Res.ob (zxj (zrz hst.cut).1 h1) ?_
 have hk : ∀ X0, SKt C (WqE C F pure pan E) (fun _ _ _ _ => False) X0 kf E Q ⟨endT C fn, fun _ _ => .fail, fun _ => .fail⟩ ⟨fun tm' H' => zt2 C (za6 F) (fnV C (za6 F)) fn q.cl cells .niliface tm' H', fun _ _ _ => none, fun _ _ => none⟩ := by
  intro X0; refine ⟨?_, fun _ _ _ _ _ _ _ _ h => h.elim, fun _ _ _ _ _ _ _ h => h.elim⟩
  intro st tm HA t X ν hst hw; simp only [hend]; exact zsq st tm HA t X ν hst hw
 have hr := zk2 (zlq hpn) zig (.region q.i6 q.o6 false) ⟨endT C fn, fun _ _ => .fail, fun _ => .fail⟩ ⟨fun tm' H' => zt2 C (za6 F) (fnV C (za6 F)) fn q.cl cells .niliface tm' H', fun _ _ _ => none, fun _ _ => none⟩ (ROk.nil rfl) hk (JOk.nil rfl) X0 _ _ _ _ _ _ hst h4
 obtain ⟨o, t', HA', X', g1, g2, g3, g4⟩ := hr
 have g1 : ztx C (fnV C (za6 F)) q.o6 fn.ntmps (fun tm' H' => zt2 C (za6 F) (fnV C (za6 F)) fn q.cl cells .niliface tm' H') q.o6.toList tm.cut HA = some (o, HA') := g1
 refine Res.ob g1 ?_
 cases ho : o.p with
 | false =>
  rw [ho, yaa (by simp)] at g4
  show Res C.base X0 noP Q (some (o, HA'))
  exact ⟨o, t', HA', X', rfl, g2, g3, by rw [ho, yaa (by simp)]; exact g4⟩
 | true =>
  rw [ho, yab rfl] at g4; show Res C.base X0 noP Q (zt2 C (za6 F) (fnV C (za6 F)) fn q.cl cells o.v tm.cut HA')
  obtain ⟨v, t'', HA'', X'', k1, k2, k3, k4⟩ := zfg.1 (h3 _ _ g4 _ _ g2)
  unfold zt2; refine Res.ob k1 ?_
  show Res C.base X0 noP Q (z8j C fn tm.cut HA'')
  have hs := hst.cut
  have hlo : ∀ d, (ztv kf p vals).cut.lo.get d = none := by
   intro d; show (zzae p.ll (zm4 vals (zbf p.pl))).get d = none
   rw [hp]; exact Tr.get_leaf _
  have hs2 : zdc C.base X0 kf ν X'' (ztv kf p vals).cut tm.cut HA'' t'' :=
   ⟨k2, g3.trans k3, hs.k, hs.kA, hs.tms, hs.ads, fun d l h => (by rw [hlo] at h; cases h), fun d _ l _ h => (by rw [hlo] at h; cases h)⟩
  exact zsq _ _ _ _ _ _ hs2 k4
theorem WcD_of (h : z8f C F f fn kf A l q fc kc Ac qc) {p : PI} (hp : p.ll = []) (hpn : pure pn = false) {args : List zab} (hl : (Nat.ble (zbf args) kf && Nat.ble (zbf args) fn.ntmps) = true) (hpts : ∀ κ, zde C (fnV C (za6 F)) f fn.ntmps (zzfd l) κ = [])
  (hw : wpT C.base (Wq C F pure) (fun i vals t Q => i = p.id /\ z04 C F pure pan f fn kf A q p vals t Q) (ztr C A.la f fn.ntmps (zzfd l) ⟨zt0 p, fun _ _ => .fail, endT C fn⟩ ⟨⟨kf, Tr.ofList args, []⟩, [], .leaf, []⟩) t Q) : Wc C F f args t Q := by
 intro X HA ho; obtain ⟨g, h1, h2⟩ := zvc (args := args) (d := false) h.isFn h.isK h.body hl
 rw [zl4 h.lt, h.prim]; show Res C.base X noP Q (fnV C (za6 F) (.func f) args HA)
 rw [zzdh]; show Res C.base X noP Q (z5i C (za6 F) (fnV C (za6 F)) f args HA)
 unfold z5i; refine Res.ob (zzed h.isF) (Res.ob h.isFn (Res.ob h1 ?_))
 unfold zs3; rw [h.split, h2]; have hk : ∀ X0, SKt C (Wq C F pure) (fun i vals t Q => i = p.id /\ z04 C F pure pan f fn kf A q p vals t Q) X0 kf noP Q ⟨zt0 p, fun _ _ => .fail, endT C fn⟩ (zzjs C (za6 F) (fnV C (za6 F)) fn q) := by
  intro X0; refine ⟨fun st tm HA t X ν hst hw => ?_, fun _ _ _ _ _ _ _ _ h => h.elim, zsq⟩
  unfold zt0 at hw; rw [zbn] at hw; obtain ⟨vals, k1, _, k2⟩ := hw
  exact zzlr h hp hpn k2 (hst.at k1)
 exact zk2 (zzi0 hpn) z5y (zzfd l) _ _ (ROk.nil h.rng) hk (JOk.nil (hpts _)) _ _ _ _ _ _ _ (st_of ho rfl) hw
end
end Go.Am
namespace Go.Proofs
open Go Go.Am
variable [zb1]
def dq0 : z09 := ⟨0, #[], 0, 0, [], 0, #[]⟩
def cq0 : ClQ := ⟨0, #[], 0, 0, .skip⟩
def pcs (f : Nat) : List zbb := (gD ([], dq0) (zk6 (ao f).code)).1
def dqo (f : Nat) : z09 := (gD ([], dq0) (zk6 (ao f).code)).2
def cqo (f : Nat) : ClQ := gD cq0 (zzn6 (ao f).code)
def dB (f cl : Nat) : Bool := !za4 (F.get f) && !za4 (fns.get f) && !za4 (ks.get f) && !za4 (zk6 (ao f).code) && !za4 (F.get cl) && !za4 (fns.get cl) && !za4 (ks.get cl) && !za4 (zzn6 (ao cl).code) && Nat.beq (dqo f).cl cl && defB C30 F f (fo f) (ko f) (ao f) (pcs f) (dqo f) (fo cl) (ko cl) (ao cl) (cqo cl)
theorem dA (f cl : Nat) (h : dB f cl = true := by kernel_rfl) : z8f C30 F f (fo f) (ko f) (ao f) (pcs f) (dqo f) (fo cl) (ko cl) (ao cl) (cqo cl) := by
 unfold dB at h; simp only [ybb] at h; obtain ⟨⟨⟨⟨⟨⟨⟨⟨⟨h1, h2⟩, h3⟩, h4⟩, h5⟩, h6⟩, h7⟩, h8⟩, h9⟩, h10⟩ := h
 have e := zds.1 h9
 exact .of (gO h1) (gO h2) (gO h3) (gO h4) (by rw [e]; exact gO h5) (by rw [e]; exact gO h6) (by rw [e]; exact gO h7) (gO h8) h10
abbrev noJ : zd3 := fun _ _ _ _ => False
abbrev pR : PI := ⟨11, [1, 4, 5, 6, 8], []⟩
abbrev pS : PI := ⟨3, [0, 1, 2, 3], []⟩
def t45 (p0 : List Nat) (p1 : zab) : T :=
 .heavy (ze9 C30 47) fun a0 =>
 .heavy (ze9 C30 29) fun a1 =>
 .heavy (ze9 C30 30) fun a2 =>
 .call 22 [(.str p0)] fun a3 =>
 .opt (zb3 0 a3) fun a4 => .opt (zb3 1 a3) fun a5 => .asG [(.int .i64 0), (.int .i64 0)] a5 fun X6 =>
 .opt (zb3 2 a3) fun a7 => .asI .i64 a7 fun n8 => .heavy (za0 C30 29 a1 (.agg [(.int .i64 (X6.i 0)), (.int .i64 (X6.i 1))])) fun _ =>
 .heavy (za0 C30 30 a2 (.int .i64 n8)) fun _ =>
 .light (fun m => zao C30 30 ⟨0, m⟩ a2) fun a9 => .asI .i64 a9 fun n10 => .ite (!iEq n10 0)
 (.light (fun m => zao C30 47 ⟨0, m⟩ a0) fun a11 => .asG [(.int .u8 0), (.bool false), .nilslice, (.bool false), .nilslice, (.int .i64 0)] a11 fun X12 =>
 .light (fun m => zao C30 29 ⟨0, m⟩ a1) fun a13 => .asG [(.int .i64 0), (.int .i64 0)] a13 fun X14 =>
 .light (fun m => zao C30 30 ⟨0, m⟩ a2) fun a15 => .asI .i64 a15 fun n16 => .heavy (za0 C30 47 a0 (.agg [(.int .u8 (X12.i 0)), (.bool (X12.b 1)), (X12.v 2), (.bool (X12.b 3)), (X12.v 4), (.int .i64 (X12.i 5))])) fun _ =>
 .light (fun m => zao C30 29 ⟨0, m⟩ a1) fun a17 => .ite (same 10 a17 (.agg [(.int .i64 (X14.i 0)), (.int .i64 (X14.i 1))])) (.light (fun m => zao C30 30 ⟨0, m⟩ a2) fun a18 => .ite (same 10 a18 (.int .i64 n16)) (.heavy (za0 C30 29 a1 (.agg [(.int .i64 (X14.i 0)), (.int .i64 (X14.i 1))])) fun _ =>
 .light (fun m => zao C30 30 ⟨0, m⟩ a2) fun a19 => .ite (same 10 a19 (.int .i64 n16)) (.heavy (za0 C30 30 a2 (.int .i64 n16)) fun _ =>
 .light (fun m => zao C30 47 ⟨0, m⟩ a0) fun a20 => .light (fun m => zao C30 29 ⟨0, m⟩ a1) fun a21 => .light (fun m => zao C30 30 ⟨0, m⟩ a2) fun a22 => .ret (.tup [a20, a21, a22])) .fail) .fail) .fail)
 (.call 25 [(.str p0), (.int .i64 (Int.ofNat (zbf p0)))] fun a23 =>
 .asG [(.int .i64 0), (.int .i64 0)] a23 fun X24 =>
 .ite (zfh zab.one [a4]) (.heavy (zx9 (.agg [a4, (.int .i64 0), (.int .i64 0), (.int .i64 (X24.i 0)), (.int .i64 (X24.i 1))])) fun a25 =>
 .jump 11 [p1, a0, a1, a2, a25]) .fail)
def z9h (v1 : zab) (v4 : zab) (v5 : zab) (v6 : zab) (v8 : zab) : T :=
 .callv v1 [v8] fun a0 =>
 .asG [(.int .u8 0), (.bool false), .nilslice, (.bool false), .nilslice, (.int .i64 0)] a0 fun X1 =>
 .ite true (.heavy (za0 C30 47 v4 (.agg [(.int .u8 (X1.i 0)), (.bool (X1.b 1)), (X1.v 2), (.bool (X1.b 3)), (X1.v 4), (.int .i64 (X1.i 5))])) fun _ =>
 .heavy (za0 C30 29 v5 (.agg [(.int .i64 0), (.int .i64 0)])) fun _ =>
 .heavy (za0 C30 30 v6 (.int .i64 0)) fun _ =>
 .light (fun m => zao C30 47 ⟨0, m⟩ v4) fun a2 => .light (fun m => zao C30 29 ⟨0, m⟩ v5) fun a3 => .light (fun m => zao C30 30 ⟨0, m⟩ v6) fun a4 => .ret (.tup [a2, a3, a4])) .fail
def zzf6 (v0 : zab) (v1 : zab) (v2 : zab) (v3 : zab) : T :=
 .opt ((zzfi .neq).f C30 20 (.tmp 8) (.const .nilIface) v3 .niliface) fun a0 => .asB a0 fun b1 => .ite b1
 (.heavy (za0 C30 47 v0 (.agg [(.int .u8 0), (.bool false), .nilslice, (.bool false), .nilslice, (.int .i64 0)])) fun _ =>
 .heavy (za0 C30 30 v1 (.int .i64 120)) fun _ =>
 .opt (zrf C30 123 true v3) fun a2 => .opt (zb3 0 a2) fun a3 => .asG [(.int .i64 0), (.int .i64 0), (.int .i64 0)] a3 fun X4 =>
 .opt (zb3 1 a2) fun a5 => .asB a5 fun b6 => .ite true (.ite b6
 (.heavy (za0 C30 29 v2 (.agg [(.int .i64 (X4.i 0)), (.int .i64 (X4.i 1))])) fun _ =>
 .ite (same 10 (.int .i64 (X4.i 2)) (.int .i64 (X4.i 2))) (.heavy (za0 C30 30 v1 (.int .i64 (X4.i 2))) fun _ =>
 .ret (.tup [])) .fail)
 (.ret (.tup []))) .fail)
 (.ret (.tup []))
def zzf8 (v4 v5 v6 : zab) : T := .light (fun m => zao C30 47 ⟨0, m⟩ v4) fun a2 => .light (fun m => zao C30 29 ⟨0, m⟩ v5) fun a3 => .light (fun m => zao C30 30 ⟨0, m⟩ v6) fun a4 => .ret (.tup [a2, a3, a4])
theorem e45 (p0 : List Nat) (p1 : zab) : ztr C30 (ao 45).la 45 (fo 45).ntmps (zzfd (pcs 45)) ⟨zt0 pR, fun _ _ => .fail, Am.endT C30 (fo 45)⟩ ⟨⟨ko 45, Tr.ofList [(.str p0), p1], []⟩, [], .leaf, []⟩ = t45 p0 p1 := by kernel_rfl
theorem e45_13 (v1 v4 v5 v6 v8 : zab) : ztr C30 (ao 45).la 45 (fo 45).ntmps (.region (dqo 45).i6 (dqo 45).o6 false) ⟨Am.endT C30 (fo 45), fun _ _ => .fail, fun _ => .fail⟩ (ztv (ko 45) pR [v1, v4, v5, v6, v8]) = z9h v1 v4 v5 v6 v8 := by kernel_rfl
theorem e45_e (v1 v4 v5 v6 v8 : zab) : Am.endT C30 (fo 45) (ztv (ko 45) pR [v1, v4, v5, v6, v8]).cut = zzf8 v4 v5 v6 := by kernel_rfl
theorem e70_3 (v0 v1 v2 v3 : zab) : ztr C30 (ao 70).la (dqo 45).cl (fo 70).ntmps (cqo 70).c (zzi9 C30 (fo 70)) (ztv (ko 70) pS [v0, v1, v2, v3]) = zzf6 v0 v1 v2 v3 := by kernel_rfl
theorem nil70 (a b c : zab) (HA : zaf) : zok C30 (za6 F) (fnV C30 (za6 F)) (dqo 45).cl [a, b, c] .niliface HA = some (⟨.tup [], false⟩, HA) := by kernel_rfl
theorem tl45 (v1 v4 v5 v6 v8 : zab) {m : Tr zav} {Q : zbo} (h : wpT C30.base (WqE C30 F zct zuz fun v t' => wpT C30.base (Wq C30 F zct) noJ (zzf6 v4 v6 v5 v) t' fun _ t'' => wpT C30.base (Wq C30 F zct) noJ (zzf8 v4 v5 v6) t'' Q) noJ (z9h v1 v4 v5 v6 v8) m Q) :
  z04 C30 F zct zuz 45 (fo 45) (ko 45) (ao 45) (dqo 45) pR [v1, v4, v5, v6, v8] m Q := by
 refine ⟨[v4, v6, v5], (fun v t' => wpT C30.base (Wq C30 F zct) noJ (zzf6 v4 v6 v5 v) t' fun _ t'' => wpT C30.base (Wq C30 F zct) noJ (zzf8 v4 v5 v6) t'' Q), by kernel_rfl, nil70 _ _ _, fun v t' hv => ?_, by rw [e45_13]; exact h⟩
 refine zzn5 (dA 45 70) (p := pS) (W := Wq C30 F zct) (zzi0 (by kernel_rfl)) z5y (by intro κ; kernel_rfl) (by kernel_rfl) (vals := [v4, v6, v5, v]) (by kernel_rfl) (J := noJ) ?_
 rw [e70_3, e45_e]; exact hv
theorem w45 (p0 : List Nat) (p1 : zab) {m : Tr zav} {Q : zbo} (h : wpT C30.base (Wq C30 F zct) (fun i vals t Q => i = 11 /\ z04 C30 F zct zuz 45 (fo 45) (ko 45) (ao 45) (dqo 45) pR vals t Q) (t45 p0 p1) m Q) : Wf 45 [(.str p0), p1] m Q :=
 WcD_of (pan := zuz) (dA 45 70) (p := pR) rfl (by kernel_rfl) (by kernel_rfl) (by intro κ; kernel_rfl) (by rw [e45]; exact h)
end Go.Proofs
namespace Go.Proofs
open Go Go.Am
variable [zb1]
section
variable {t : Tr zav} {Q : zbo} {s : List Nat}
theorem ze8 (s : List Nat) : (Int.ofNat (zbf s)) = (s.length : Int) := by rw [za1]; rfl
theorem zzan (hs : s.length < 4000000000000000000) : pvC C30 F 37 [.str s, .func (.func 65) [] []] t = some (.str (zit zba s)) := by
 refine zbg.2 (w37 ?_)
 simp only [uZ, t37, wpT]; exact zwi (fun n => zjt) (fun {a m R} => by rw [q65]) rfl hs s.length 0 (by omega) (fun j x hj => by omega)
theorem zzg4 {n : Nat} : pvC C30 F 80 [.int .u8 (n : Int)] t = some (.bool (decide (n ≠ 10))) := by
 refine zbg.2 (w80 ?_)
 unfold t80; refine ⟨?_, rfl⟩
 rw [zc0]; congr 1
 by_cases h : n = 10
 ·subst h; rfl
 ·simp [h]; omega
theorem zzgn (hs : s.length < 4000000000000000000) : pvC C30 F 37 [.str s, .func (.func 80) [] []] t = some (.str (zit (fun x => decide (x ≠ 10)) s)) := by
 refine zbg.2 (w37 ?_)
 simp only [uZ, t37, wpT]; exact zwi (fun n => zzg4) (fun {a m R} => by rw [q80]) rfl hs s.length 0 (by omega) (fun j x hj => by omega)
theorem zlw (p : Nat -> Bool) (s : List Nat) : (zit p s).length <= s.length := (List.takeWhile_sublist _).length_le
theorem zzaq (p : Nat -> Bool) (s : List Nat) : zit p s = s.take (zit p s).length := by
 unfold zit; induction s with
 | nil => rfl
 | cons a s ih =>
  rw [List.takeWhile_cons]; split
  ·rw [ybn, List.take_succ_cons, <- ih]
  ·rfl
theorem z50 (hs : s.length < 4000000000000000000) : pvC C30 F 103 [.str s] t = some (.tup [.str (if 24 < (zit zcr s).length then [] else zit zcr s), .int .i64 (if 24 < (zit zcr s).length then 111 else 0)]) := by
 refine zbg.2 (w103 ?_)
 unfold t103 uS; refine zam ?_
 rw [q37, zzgm hs, zaa]; refine zcc ?_
 rw [ze8]; by_cases h : 24 < (zit zcr s).length
 ·rw [yab h, yab h]
  exact zag (by rw [zbu]; exact decide_eq_true (by omega)) ⟨rfl, rfl⟩
 ·rw [yaa h, yaa h]
  exact zaz (by rw [zbu]; simp; omega) ⟨rfl, rfl⟩
theorem zzk : pvC C30 F 129 [.str s] t = some (.bool (zd8 s)) := by
 refine zbg.2 (w129 ?_)
 unfold t129 uU uFa; rw [ze8]; unfold zd8; by_cases h : 1 < s.length
 ·cases s with
  | nil => simp at h
  | cons x r =>
   have hx := zcl (s := x :: r) (i := 0) (x := x) rfl
   refine zag (by rw [zbu]; exact decide_eq_true (by omega)) (zah hx (zaw ⟨?_, rfl⟩))
   rw [zc0, decide_eq_true h]; congr 1
   by_cases h48 : x = 48
   ·subst h48; rfl
   ·simp [h48]; omega
 ·refine zaz (by rw [zbu]; simp; omega) ⟨?_, rfl⟩
  simp [h]
theorem zzie : pvC C30 F 104 [.str s] t = some (.bool (zdf s)) := by
 have loop : 10 <= s.length -> ∀ (k i : Nat), i + k = 10 -> jp 104 2 [.str s, .int .i64 (i : Int)] t (fun v t' => v = .bool (((List.range 10).drop i).all fun i => zgb i (s.getD i 0)) /\ t' = t) := by
  intro hl k; induction k with
  | zero =>
   intro i hi; refine zzko ?_
   unfold z98 uTr; refine zaz (by rw [zbu]; simp; omega) ⟨?_, rfl⟩
   rw [ybt (by simp; omega)]
   rfl
  | succ k ih =>
   intro i hi; have hx : s[i]? = some s[i] := ybd (by omega)
   have hd : s.getD i 0 = s[i] := by rw [List.getD_eq_getElem?_getD, hx]; rfl
   have e : ((List.range 10).drop i).all (fun i => zgb i (s.getD i 0)) = (zgb i s[i] && ((List.range 10).drop (i + 1)).all fun i => zgb i (s.getD i 0)) := by
    rw [ybl (by simp; omega), ycg]
    simp only [List.getElem_range, hd]
   have e3 : uIn (i : Int) = .int .i64 ((i + 1 : Nat) : Int) := by
    show zab.int .i64 (zal .i64 ((i : Int) + 1)) = _
    rw [zan (by omega) (by omega)]; rfl
   have next : zgb i s[i] = true -> jp 104 2 [.str s, uIn (i : Int)] t (fun v t' => v = .bool (((List.range 10).drop i).all fun i => zgb i (s.getD i 0)) /\ t' = t) := fun h => by
    rw [e, h, ycn, e3]; exact ih (i + 1) (by omega)
   have sep : (i = 4 \/ i = 7) -> wp 104 (uQ15 s (i : Int)) t (fun v t' => v = .bool (((List.range 10).drop i).all fun i => zgb i (s.getD i 0)) /\ t' = t) := fun h47 => by
    unfold uQ15 uU uFa; refine zah (zcl hx) (zaw ?_)
    have hda : zgb i s[i] = decide (s[i] = 45) := by unfold zgb; rw [yab h47]
    by_cases h45 : s[i] = 45
    ·refine zaz (by rw [zc0, h45]; simp) (za3 (next (by rw [hda]; exact decide_eq_true h45)))
    ·refine zag (by rw [zc0]; simp; omega) ⟨?_, rfl⟩
     rw [e, hda, decide_eq_false h45]; rfl
   refine zzko ?_
   unfold z98 uU uB uFa; refine zag (by rw [zbu]; exact decide_eq_true (by omega)) ?_
   by_cases h4 : i = 4
   ·exact zag (by rw [zc0]; exact decide_eq_true (by omega)) (sep (.inl h4))
   refine zaz (by rw [zc0]; simp; omega) ?_
   by_cases h7 : i = 7
   ·exact zag (by rw [zc0]; exact decide_eq_true (by omega)) (sep (.inr h7))
   refine zaz (by rw [zc0]; simp; omega) (zah (zcl hx) (zaw (zam ?_)))
   rw [q65]; show zf8 (pvC C30 F 65 [.int .u8 (s[i] : Int)] t) _
   rw [zjt, zaa]; have hda : zgb i s[i] = zba s[i] := by unfold zgb; rw [yaa (by omega)]
   refine zcf ?_
   cases hb : zba s[i] with
   | true => exact zaz (by simp) (za3 (next (by rw [hda, hb])))
   | false =>
    refine zag rfl ⟨?_, rfl⟩
    rw [e, hda, hb]; rfl
 refine zbg.2 (w104 ?_)
 unfold t104 uFa; rw [ze8]; unfold zdf; by_cases h : 10 <= s.length
 ·refine zaz (by rw [zbu]; simp; omega) (za3 ?_)
  rw [decide_eq_true h, ycn]; exact loop h 10 0 rfl
 ·refine zag (by rw [zbu]; exact decide_eq_true (by omega)) ⟨?_, rfl⟩
  rw [decide_eq_false h]; rfl
theorem z7r (h : zdf s = true) : zdf (s.take 10) = true /\ (s.take 10).length = 10 := by
 have hl : 10 <= s.length := by unfold zdf at h; simp only [ybb, decide_eq_true_eq] at h; exact h.1
 refine ⟨?_, by rw [yda]; omega⟩
 unfold zdf at h ⊢
 simp only [ybb, decide_eq_true_eq, ycb, List.mem_range] at h ⊢
 refine ⟨by rw [yda]; omega, fun i hi => ?_⟩
 have := h.2 i hi
 rw [List.getD_eq_getElem?_getD] at this ⊢
 rw [ydf, yab hi]; exact this
theorem z7s (hg : zfc t) (hd : zdf s = true) : pvC C30 F 105 [.str s] t = some (.tup [.str (if zgn s then [] else s.take 10), .int .i64 (if zgn s then 113 else 0)]) := by
 obtain ⟨h1, h2⟩ := z7r hd
 have hl : 10 <= s.length := by unfold zdf at hd; simp only [ybb, decide_eq_true_eq] at hd; exact hd.1
 have tail : (decide (10 < s.length) && zdn s 10) = false -> wp 105 (uQ6 s) t fun v' t' => v' = .tup [.str (if zgn s then [] else s.take 10), .int .i64 (if zgn s then 113 else 0)] /\ t' = t := by
  intro hf; have hb : zgn s = decide (zzid (s.take 10) = none) := by unfold zgn; rw [hf, Bool.false_or]
  unfold uQ6 uS uI; have hs := zj4 (s := s) (k := 10) (by omega)
  refine zah hs (zcc (zam ?_))
  rw [q97, zzd6 hg h2 h1, zaa]; refine zah rfl (zaw (zah rfl (zaw ?_)))
  rw [hb]
  cases hx : zzid (s.take 10) with
  | none => exact zag (by decide) ⟨rfl, rfl⟩
  | some n => exact zaz (fun h => by cases h) (zah hs (zcc ⟨rfl, rfl⟩))
 refine zbg.2 (w105 ?_)
 unfold t105 uU uB; rw [ze8]; by_cases h10 : 10 < s.length
 ·have hx : s[10]? = some s[10] := ybd h10
  refine zag (by rw [zbu]; exact decide_eq_true (by omega)) (zah (zcl hx) (zaw (zam ?_)))
  rw [q38]; show zf8 (pvC C30 F 38 [.int .u8 (s[10] : Int)] t) _
  rw [zsg, zaa]; refine zcf ?_
  have hf : zdn s 10 = zcr s[10] := by unfold zdn; rw [hx]
  cases hb : zcr s[10] with
  | true =>
   refine zag rfl ⟨?_, rfl⟩
   have : zgn s = true := by unfold zgn; rw [hf, hb, decide_eq_true h10]; rfl
   rw [this]; rfl
  | false =>
   refine zaz (by simp) (tail ?_)
   rw [hf, hb, yay]
 ·exact zaz (by rw [zbu]; simp; omega) (tail (by rw [decide_eq_false h10]; rfl))
theorem zzbm (hs : s.length < 1000000) : pvC C30 F 106 [.str s] t = some (.tup [.str (if zdm s then [] else s.take (zb7 s)), .int .i64 (if zdm s then 112 else 0)]) := by
 have hfl := zlw zba s
 have hfirst : (zbh s).length <= s.length := hfl
 have hsecond : (zbh s).length + 1 + (zbk s).length <= s.length \/ zbk s = [] := by
  unfold zbk; split
  ·rename_i h
   have h1 := (ybc.1 h).1
   left
   have := zlw zba (s.drop ((zbh s).length + 1))
   rw [ydj] at this; omega
  ·right; rfl
 have hnl : zb7 s <= s.length := by
  unfold zb7; split
  ·exact hfirst
  ·rename_i h; exact hsecond.resolve_right h
 have tail : decide (200 < zb7 s) = false -> zdn s (zb7 s) = false -> wp 106 (uQ9 (zbh s) (zbk s) s (zb7 s : Int)) t fun v' t' => v' = .tup [.str (if zdm s then [] else s.take (zb7 s)), .int .i64 (if zdm s then 112 else 0)] /\ t' = t := by
  intro h1 h2; have hb : zdm s = (zd8 (zbh s) || zd8 (zbk s) || decide (zbk s = [48])) := by unfold zdm; rw [h1, h2, Bool.false_or, Bool.false_or]
  unfold uQ9 uB uS; refine zam ?_
  rw [q129, zzk, zaa]; refine zcf ?_
  cases p1 : zd8 (zbh s) with
  | true => rw [hb, p1]; exact zag rfl ⟨rfl, rfl⟩
  | false =>
   refine zaz (by simp) (zam ?_)
   rw [q129, zzk, zaa]; refine zcf ?_
   cases p2 : zd8 (zbk s) with
   | true => rw [hb, p1, p2]; exact zag rfl ⟨rfl, rfl⟩
   | false =>
    refine zaz (by simp) ?_
    rw [hb, p1, p2]
    cases p3 : zem (zbk s) [48] with
    | true =>
     rw [decide_eq_true ((zf3 _ _).1 p3)]
     exact zag rfl ⟨rfl, rfl⟩
    | false =>
     rw [decide_eq_false fun e => by rw [(zf3 _ _).2 e] at p3; cases p3]
     exact zaz (by simp) (zah (zj4 hnl) (zcc ⟨rfl, rfl⟩))
 have p17 : jp 106 17 [.str s, .str (zbh s), .int .i64 (zb7 s : Int), .str (zbk s)] t fun v' t' => v' = .tup [.str (if zdm s then [] else s.take (zb7 s)), .int .i64 (if zdm s then 112 else 0)] /\ t' = t := by
  refine zzm7 ?_
  unfold z96 uU uB; rw [ze8]; by_cases h : zb7 s < s.length
  ·have hx : s[zb7 s]? = some s[zb7 s] := ybd h
   refine zag (by rw [zbu]; exact decide_eq_true (by omega)) (zah (zcl hx) (zaw (zam ?_)))
   rw [q38]; show zf8 (pvC C30 F 38 [.int .u8 (s[zb7 s] : Int)] t) _
   rw [zsg, zaa]; refine zcf ?_
   have hf : zdn s (zb7 s) = zcr s[zb7 s] := by unfold zdn; rw [hx]
   by_cases h2 : 200 < zb7 s
   ·refine zag (by rw [zbu]; exact decide_eq_true (by omega)) ⟨?_, rfl⟩
    have : zdm s = true := by unfold zdm; rw [decide_eq_true h2]; simp
    rw [this]; rfl
   ·refine zaz (by rw [zbu]; simp; omega) ?_
    cases hb : zcr s[zb7 s] with
    | true =>
     refine zag rfl ⟨?_, rfl⟩
     have : zdm s = true := by unfold zdm; rw [hf, hb]; simp
     rw [this]; rfl
    | false => exact zaz (by simp) (tail (decide_eq_false h2) (by rw [hf, hb]))
  ·have hf : zdn s (zb7 s) = false := by unfold zdn; rw [List.getElem?_eq_none (by omega)]
   refine zaz (by rw [zbu]; simp; omega) ?_
   by_cases h2 : 200 < zb7 s
   ·refine zag (by rw [zbu]; exact decide_eq_true (by omega)) ⟨?_, rfl⟩
    have : zdm s = true := by unfold zdm; rw [decide_eq_true h2]; simp
    rw [this]; rfl
   ·exact zaz (by rw [zbu]; simp; omega) (tail (decide_eq_false h2) hf)
 have p13 : jp 106 13 [.str s, .str (zbh s), .int .i64 ((zbh s).length : Int), .str (zbk s)] t fun v' t' => v' = .tup [.str (if zdm s then [] else s.take (zb7 s)), .int .i64 (if zdm s then 112 else 0)] /\ t' = t := by
  refine zzm8 ?_
  unfold z97
  cases he : zem (zbk s) [] with
  | true =>
   have h0 := (zf3 _ _).1 he
   refine zaz (by simp) (za3 ?_)
   have : zb7 s = (zbh s).length := by unfold zb7; rw [yab h0]
   have e : ((zb7 s : Nat) : Int) = ((zbh s).length : Int) := by rw [this]
   rw [e] at p17; exact p17
  | false =>
   have h0 : zbk s ≠ [] := fun e => by rw [(zf3 _ _).2 e] at he; cases he
   have hle := hsecond.resolve_right h0
   refine zag rfl (za3 ?_)
   have e : uW (((zbh s).length : Int) + uW (1 + Int.ofNat (zbf (zbk s)))) = ((zb7 s : Nat) : Int) := by
    unfold uW zb7; rw [ze8, yaa h0, zan (n := 1 + ((zbk s).length : Int)) (by omega) (by omega), zan (by omega) (by omega)]
    omega
   rw [e]; exact p17
 refine zbg.2 (w106 ?_)
 unfold t106 uS uU; refine zam ?_
 rw [q37, zzan (by omega), zaa]
 refine zcc ?_
 rw [ze8, ze8]; show wp 106 (.ite (iLt ((zbh s).length : Int) (s.length : Int)) _ (.jump 13 [.str s, .str (zbh s), uZ ((zbh s).length : Int), .str []])) t _
 by_cases h : (zbh s).length < s.length
 ·have hx : s[(zbh s).length]? = some s[(zbh s).length] := ybd h
  refine zag (by rw [zbu]; exact decide_eq_true (by omega)) (zah (zcl hx) (zaw ?_))
  by_cases h47 : s[(zbh s).length] = 47
  ·have e : uW (((zit zba s).length : Int) + 1) = (((zbh s).length + 1 : Nat) : Int) := by
    show zal .i64 (((zbh s).length : Int) + 1) = _
    rw [zan (by omega) (by omega)]; rfl
   have h2 : zbk s = zit zba (s.drop ((zbh s).length + 1)) := by unfold zbk; rw [yab (by rw [hx, h47])]
   refine zag (by rw [zc0, h47]; rfl) ?_
   rw [e]; refine zah (zqp (by omega)) (zcc (zam ?_))
   rw [q37, zzan (by rw [ydj]; omega), zaa, <- h2]
   exact zcc (za3 p13)
  ·have h2 : zbk s = [] := by unfold zbk; rw [yaa (by rw [hx]; simpa using h47)]
   refine zaz (by rw [zc0]; simp; omega) (za3 ?_)
   rw [h2] at p13; exact p13
 ·have h2 : zbk s = [] := by unfold zbk; rw [yaa (by rw [List.getElem?_eq_none (by omega)]; simp)]
  refine zaz (by rw [zbu]; simp; omega) (za3 ?_)
  rw [h2] at p13; exact p13
end
end Go.Proofs
namespace Go.Proofs
open Go Go.Am
variable [zb1]
theorem zzhp (c : Nat) : ∀ s : List Nat, (zg2 c s).isSome = s.contains c := by
 intro s; induction s with
 | nil => rfl
 | cons x r ih =>
  rw [List.contains_cons, <- ih]; have e : zg2 c (x :: r) = bif Nat.beq x c then some 0 else ob (zg2 c r) fun n => some (n + 1) := rfl
  rw [e]
  cases h : Nat.beq x c with
  | true => rw [zds.1 h]; simp
  | false =>
   have : ¬ c = x := fun e => by rw [e, Nat.beq_refl] at h; cases h
   have h2 : (c == x) = false := by simp [this]
   rw [cond_false, h2, Bool.false_or]
   cases zg2 c r <;> rfl
abbrev oSc (sp : Nat) (src : List Nat) (ln cl off : Nat) : Thg := zes sp none [.int .i64 (ln : Int), .int .i64 (cl : Int), .str src, .int .i64 (off : Int)]
section
variable {tf t : Tr zav} {A B : List Thg} {Q : zbo} {sp ln cl off : Nat} {src : List Nat}
theorem g0 {b : Nat} : zas C30 145 0 (.ptr b 0) = some (.ptr b 0) := by kernel_rfl
theorem g1 {b : Nat} : zas C30 145 1 (.ptr b 0) = some (.ptr b 2) := by kernel_rfl
theorem g2 {b : Nat} : zas C30 145 2 (.ptr b 0) = some (.ptr b 3) := by kernel_rfl
theorem p0 {b : Nat} : zas C30 29 0 (.ptr b 0) = some (.ptr b 0) := by kernel_rfl
theorem p1 {b : Nat} : zas C30 29 1 (.ptr b 0) = some (.ptr b 1) := by kernel_rfl
theorem zzjq (h : zbe C30.base tf t (A ++ oSc sp src ln cl off :: B)) : zao C30 9 ⟨0, t⟩ (.ptr sp 2) = some (.str src) := (zbe.cel h).load1 ty9 rfl rfl
theorem zy6 (h : zbe C30.base tf t (A ++ oSc sp src ln cl off :: B)) : zao C30 3 ⟨0, t⟩ (.ptr sp 3) = some (.int .i64 (off : Int)) := (zbe.cel h).load1 ty3 rfl rfl
theorem sc_ln (h : zbe C30.base tf t (A ++ oSc sp src ln cl off :: B)) : zao C30 3 ⟨0, t⟩ (.ptr sp 0) = some (.int .i64 (ln : Int)) := (zbe.cel h).load1 ty3 rfl rfl
theorem sc_cl (h : zbe C30.base tf t (A ++ oSc sp src ln cl off :: B)) : zao C30 3 ⟨0, t⟩ (.ptr sp 1) = some (.int .i64 (cl : Int)) := (zbe.cel h).load1 ty3 rfl rfl
theorem sc_pl (h : zbe C30.base tf t (A ++ oSc sp src ln cl off :: B)) : zao C30 29 ⟨0, t⟩ (.ptr sp 0) = some (.agg [.int .i64 (ln : Int), .int .i64 (cl : Int)]) := by
 have := (zbe.cel h).at.load (j := 0) (n := 2) z85 rfl rfl (by simp)
 simpa using this
theorem zy5 {ln' cl' off' j : Nat} {x : Nat} (h : zbe C30.base tf t (A ++ oSc sp src ln cl off :: B)) (hj : j < 4) (he : zl9 [.int .i64 (ln : Int), .int .i64 (cl : Int), .str src, .int .i64 (off : Int)] j [.int .i64 (x : Int)] = [.int .i64 (ln' : Int), .int .i64 (cl' : Int), .str src, .int .i64 (off' : Int)]) :
  ∃ t', (∀ q, za0 C30 3 (.ptr sp j) (.int .i64 (x : Int)) ⟨q, t⟩ = some (zbj, ⟨q, t'⟩)) /\ zbe C30.base tf t' (A ++ oSc sp src ln' cl' off' :: B) := by
 obtain ⟨t', h1, h2⟩ := zbe.setCel (j := j) (v := .int .i64 (x : Int)) h ty3 rfl (by show j + 1 <= 4; omega) rfl
 refine ⟨t', h1, ?_⟩
 have : (zab.int .i64 (x : Int)).cells = [.int .i64 (x : Int)] := rfl
 rw [this, he] at h2; exact h2
theorem zo2 (h : zbe C30.base tf t (A ++ oSc sp src ln cl off :: B)) (ho : off <= src.length) : pvC C30 F 79 [.ptr sp 0] t = some (.str (src.drop off)) := by
 refine zbg.2 (w79 ?_)
 unfold t79 uNn uI uS; exact zah nl (zah g1 (zat (zzjq h) (zcc (zah nl (zah g2 (zat (zy6 h) (zaw (zah (zqp ho) (zcc ⟨rfl, rfl⟩)))))))))
theorem zzai {n : Nat} (h : zbe C30.base tf t (A ++ oSc sp src ln cl off :: B)) (h1 : off + n < 1000000) (h2 : cl + n < 1000000) (hQ : ∀ t', zbe C30.base tf t' (A ++ oSc sp src ln (cl + n) (off + n) :: B) -> Q (.tup []) t') : Wc C30 F 78 [.ptr sp 0, .int .i64 (n : Int)] t Q := by
 refine w78 ?_
 unfold t78 uNn uI; have e1 : uW ((off : Int) + (n : Int)) = ((off + n : Nat) : Int) := by show zal .i64 _ = _; rw [zan (by omega) (by omega)]; rfl
 have e2 : uW ((cl : Int) + (n : Int)) = ((cl + n : Nat) : Int) := by show zal .i64 _ = _; rw [zan (by omega) (by omega)]; rfl
 refine zah nl (zah g2 (zat (zy6 h) (zaw (zah nl (zah g2 (zau fun b _ _ => ?_))))))
 rw [e1]; obtain ⟨t1, k1, k2⟩ := zy5 (j := 3) (x := off + n) (ln' := ln) (cl' := cl) (off' := off + n) h (by omega) rfl
 refine ⟨_, _, k1 b, zah nl (zah g0 (zah p1 (zat (sc_cl k2) (zaw (zah nl (zah g0 (zah p1 (zau fun b _ _ => ?_))))))))⟩
 rw [e2]; obtain ⟨t2, m1, m2⟩ := zy5 (j := 1) (x := cl + n) (ln' := ln) (cl' := cl + n) (off' := off + n) k2 (by omega) rfl
 exact ⟨_, _, m1 b, hQ t2 m2⟩
theorem z61 (h : zbe C30.base tf t (A ++ oSc sp src ln cl off :: B)) (h1 : off < 900000) (h2 : ln < 900000) (hQ : ∀ t', zbe C30.base tf t' (A ++ oSc sp src (ln + 1) 1 (off + 1) :: B) -> Q (.tup []) t') : Wc C30 F 77 [.ptr sp 0] t Q := by
 refine w77 ?_
 unfold t77 uNn uI; have e : ∀ n : Nat, n < 900000 -> uIn (n : Int) = .int .i64 ((n + 1 : Nat) : Int) := fun n hn => by
  show zab.int .i64 (zal .i64 ((n : Int) + 1)) = _
  rw [zan (by omega) (by omega)]; rfl
 refine zah nl (zah g2 (zat (zy6 h) (zaw (zah nl (zah g2 (zau fun b _ _ => ?_))))))
 rw [e off h1]; obtain ⟨t1, k1, k2⟩ := zy5 (j := 3) (x := off + 1) (ln' := ln) (cl' := cl) (off' := off + 1) h (by omega) rfl
 refine ⟨_, _, k1 b, zah nl (zah g0 (zah p0 (zat (sc_ln k2) (zaw (zah nl (zah g0 (zah p0 (zau fun b _ _ => ?_))))))))⟩
 rw [e ln h2]; obtain ⟨t2, m1, m2⟩ := zy5 (j := 0) (x := ln + 1) (ln' := ln + 1) (cl' := cl) (off' := off + 1) k2 (by omega) rfl
 refine ⟨_, _, m1 b, zah nl (zah g0 (zah p1 (zau fun b _ _ => ?_)))⟩
 obtain ⟨t3, n1, n2⟩ := zy5 (j := 1) (x := 1) (ln' := ln + 1) (cl' := 1) (off' := off + 1) m2 (by omega) rfl
 exact ⟨_, _, n1 b, hQ t3 n2⟩
theorem zzbn (s : List Nat) : zb7 s <= s.length := by
 have hfirst : (zbh s).length <= s.length := zlw zba s
 unfold zb7; split
 ·exact hfirst
 ·rename_i h
  unfold zbk at h ⊢
  by_cases hx : s[(zbh s).length]? = some 47
  ·rw [yab hx]
   have h1 := (ybc.1 hx).1
   have := zlw zba (s.drop ((zbh s).length + 1))
   rw [ydj] at this; omega
  ·rw [yaa hx] at h; exact absurd rfl h
theorem zyu {s w : List Nat} {k : Nat} (h : zc8 s = .tok k w) : w.length <= s.length /\ w = s.take w.length := by
 cases s with
 | nil => cases h
 | cons b r =>
  unfold zc8 at h; simp only at h
  split at h
  ·split at h
   ·cases h
   ·cases h; exact ⟨zlw _ _, zzaq _ _⟩
  split at h
  ·rename_i hd
   split at h
   ·cases h
   ·cases h
    have hl : 10 <= (b :: r).length := by
     simp only [ybb] at hd; have := hd.2
     unfold zdf at this; simp only [ybb, decide_eq_true_eq] at this; exact this.1
    rw [yda, Nat.min_eq_left hl]; exact ⟨hl, rfl⟩
  split at h
  ·split at h
   ·cases h
   ·cases h
    have hl := zzbn (b :: r)
    rw [yda, Nat.min_eq_left hl]; exact ⟨hl, rfl⟩
  split at h
  ·cases h; exact ⟨by simp, rfl⟩
  ·cases h
theorem zzfu (hg : zfc tf) (h : zbe C30.base tf t (A ++ oSc sp src ln cl off :: B)) (hoff : off < src.length) (hlen : src.length <= 65536) (hcl : cl < 200000) (hby : ∀ b ∈ src, b < 256)
  (hQ : ∀ t', match zc8 (src.drop off) with
   | .bad e => zbe C30.base tf t' (A ++ oSc sp src ln cl off :: B) -> Q (.tup [.agg [.int .u8 0, .str [], .int .i64 (ln : Int), .int .i64 (cl : Int)], .int .i64 (e : Int)]) t'
   | .tok k w => zbe C30.base tf t' (A ++ oSc sp src ln (cl + w.length) (off + w.length) :: B) -> Q (.tup [.agg [.int .u8 (k : Int), .str w, .int .i64 (ln : Int), .int .i64 (cl : Int)], .int .i64 0]) t') : Wc C30 F 81 [.ptr sp 0] t Q := by
 have hgt := hg.mono h.tle
 have hx : src[off]? = some src[off] := ybd hoff
 have hdrop : src.drop off = src[off] :: src.drop (off + 1) := ybl hoff
 have hb256 := hby src[off] (ycj _)
 have hdl : (src.drop off).length <= 65536 := by rw [ydj]; omega
 have j37 : ∀ (k e : Nat) (w : List Nat), (e ≠ 0 -> zc8 (src.drop off) = .bad e) -> (e = 0 -> zc8 (src.drop off) = .tok k w) -> jp 81 37 [.ptr sp 0, .int .u8 (k : Int), .str w, .int .i64 (e : Int), .int .u8 0, .str [], .int .i64 0, .int .i64 0, .int .i64 (ln : Int), .int .i64 (cl : Int)] t Q := by
  intro k e w h1 h2; refine j81_37 ?_
  unfold zzjf; by_cases h0 : e = 0
  ·have ht := h2 h0
   subst h0; refine zaz (by decide) (zam ?_)
   rw [q78, ze8]; obtain ⟨l1, _⟩ := zyu ht
   rw [ydj] at l1; refine zzai h (by omega) (by omega) fun t' h' => zag rfl (zag rfl ?_)
   have := hQ t'
   rw [ht] at this; exact this h'
  ·have ht := h1 h0
   refine zag (by rw [zc0]; simp; omega) (zag rfl (zag rfl ?_))
   have := hQ t
   rw [ht] at this; exact this h
 have hq1 : zia src[off] = false -> (zba src[off] = true -> zdf (src.drop off) = false) -> wp 81 (uQ1 (src[off] : Int) (.ptr sp 0) (cellsOf [.int .i64 (ln : Int), .int .i64 (cl : Int)])) t Q := by
  intro hl hd; unfold uQ1 uB uS uI; refine zam ?_
  rw [q65]; show zf8 (pvC C30 F 65 [.int .u8 (src[off] : Int)] t) _
  rw [zjt, zaa]; refine zcf ?_
  cases hdg : zba src[off] with
  | true =>
   have hda := hd hdg
   refine zag rfl (zam ?_)
   rw [q79, zo2 h (by omega), zaa]
   refine zcc (zam ?_)
   rw [q106, zzbm (by omega), zaa]
   have ht : zc8 (src.drop off) = if zdm (src.drop off) then .bad 112 else .tok 2 ((src.drop off).take (zb7 (src.drop off))) := by
    rw [hdrop] at hda ⊢
    unfold zc8; simp only [hl, hdg, hda, yay, ybq, if_false, if_true]
   refine zah rfl (zcc (zah rfl (zaw (za3 ?_))))
   cases hb : zdm (src.drop off) with
   | true => exact j37 2 112 [] (fun _ => by rw [ht, hb]; rfl) (fun e => by cases e)
   | false => exact j37 2 0 _ (fun e => absurd rfl e) (fun _ => by rw [ht, hb]; rfl)
  | false =>
   refine zaz (by simp) (zam ?_)
   have hgp : C30.prims.get 107 = some (zk9 zjl) := by kernel_rfl
   have hix : pvC C30 F 107 [.str [40, 41, 44, 43, 45, 42, 47, 60, 61], .int .u8 (src[off] : Int)] t = some (.int .i64 (match zg2 src[off] [40, 41, 44, 43, 45, 42, 47, 60, 61] with | some n => .ofNat n | none => .negSucc 0)) := by
    refine zrv hgp fun H => ?_
    show zaj (Nat.blt src[off] 256) _ = _
    rw [zdk.2 hb256]; rfl
   rw [q107]; show zf8 (pvC C30 F 107 [.str [40, 41, 44, 43, 45, 42, 47, 60, 61], .int .u8 (src[off] : Int)] t) _
   rw [hix, zaa]; refine zaw ?_
   have hsg : z2u src[off] = (zg2 src[off] [40, 41, 44, 43, 45, 42, 47, 60, 61]).isSome := by rw [zzhp]; rfl
   have ht : zc8 (src.drop off) = if z2u src[off] then .tok 4 [src[off]] else .bad 110 := by
    rw [hdrop]; unfold zc8; simp only [hl, hdg, Bool.false_and, ybq, if_false]
   cases hi : zg2 src[off] [40, 41, 44, 43, 45, 42, 47, 60, 61] with
   | some n =>
    refine zag (by rw [zmb]; exact decide_eq_true (Int.natCast_nonneg n)) (zam ?_)
    rw [q79, zo2 h (by omega), zaa]
    have hs1 := zj4 (s := src.drop off) (k := 1) (by rw [ydj]; omega)
    refine zcc (zah hs1 (zcc (za3 ?_)))
    have : (src.drop off).take 1 = [src[off]] := by rw [hdrop]; rfl
    rw [this]; exact j37 4 0 _ (fun e => absurd rfl e) (fun _ => by rw [ht, hsg, hi]; rfl)
   | none =>
    refine zaz (by decide) (za3 ?_)
    exact j37 0 110 _ (fun _ => by rw [ht, hsg, hi]; rfl) (fun e => by cases e)
 refine w81 ?_
 unfold t81 uNn uG uS uI uU uB; refine zah nl (zah g0 (zat (sc_pl h) (zbq (X := cellsOf [.int .i64 (ln : Int), .int .i64 (cl : Int)]) (zg4 rfl) (zag rfl (zah nl (zah g1 (zat (zzjq h) (zcc (zah nl (zah g2 (zat (zy6 h) (zaw (zah (zcl hx) (zaw (zam ?_)))))))))))))))
 rw [q36]; show zf8 (pvC C30 F 36 [.int .u8 (src[off] : Int)] t) _
 rw [zsf, zaa]; refine zcf ?_
 cases hl : zia src[off] with
 | true =>
  refine zag rfl (zam ?_)
  rw [q79, zo2 h (by omega), zaa]
  refine zcc (zam ?_)
  rw [q103, z50 (by omega), zaa]
  have ht : zc8 (src.drop off) = if 24 < (zit zcr (src.drop off)).length then .bad 111 else .tok 1 (zit zcr (src.drop off)) := by
   rw [hdrop]; unfold zc8; simp only [hl, if_true]
  refine zah rfl (zcc (zah rfl (zaw (za3 ?_))))
  by_cases h24 : 24 < (zit zcr (src.drop off)).length
  ·rw [yab h24, yab h24]
   exact j37 1 111 [] (fun _ => by rw [ht, yab h24]) (fun e => by cases e)
  ·rw [yaa h24, yaa h24]
   exact j37 1 0 _ (fun e => absurd rfl e) (fun _ => by rw [ht, yaa h24])
 | false =>
  refine zaz (by simp) (zam ?_)
  rw [q65]; show zf8 (pvC C30 F 65 [.int .u8 (src[off] : Int)] t) _
  rw [zjt, zaa]; refine zcf ?_
  cases hdg : zba src[off] with
  | false => exact zaz (by simp) (hq1 hl (fun h => by rw [hdg] at h; cases h))
  | true =>
   refine zag rfl (zam ?_)
   rw [q79, zo2 h (by omega), zaa]
   refine zcc (zam ?_)
   rw [q104, zzie, zaa]; refine zcf ?_
   cases hda : zdf (src.drop off) with
   | false => exact zaz (by simp) (hq1 hl (fun _ => hda))
   | true =>
    refine zag rfl (zam ?_)
    rw [q79, zo2 h (by omega), zaa]
    refine zcc (zam ?_)
    rw [q105, z7s hgt hda, zaa]; have ht : zc8 (src.drop off) = if zgn (src.drop off) then .bad 113 else .tok 3 ((src.drop off).take 10) := by
     rw [hdrop] at hda ⊢
     unfold zc8; simp only [hl, hdg, hda, Bool.and_true, ybq, if_false, if_true]
    refine zah rfl (zcc (zah rfl (zaw (za3 ?_))))
    cases hb : zgn (src.drop off) with
    | true => exact j37 3 113 [] (fun _ => by rw [ht, hb]; rfl) (fun e => by cases e)
    | false => exact j37 3 0 _ (fun e => absurd rfl e) (fun _ => by rw [ht, hb]; rfl)
end
end Go.Proofs
