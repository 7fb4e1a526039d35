/- The lexer: all tokens of a source. -/
import Derived.Test.YtfmlbimokklmgaaGreatDoorA18
set_option linter.all false
noncomputable section
set_option maxRecDepth 100000
namespace Go.Proofs
open Go Go.Am
variable [zb1]
def oLp (l : Nat) (r : zj1) : Thg where
 blks := [l]
 ok := fun _ t => t.get l = some (.loop r)
 keep := fun h _ k => by rw [(k l (by simp)).1]; exact h
 live := fun h k hk => by rw [ydd] at hk; subst hk; exact ⟨_, h⟩
theorem el66 : ElTy C30 66 75 4 := ⟨⟨_, z6b, rfl, rfl⟩, ⟨_, ty75, rfl, rfl, by decide, by decide⟩, fun y h => by rw [ty75] at h; cases h; rfl⟩
theorem tok_rd {t : Tr zav} (x : Tok) : RD t x.d x.cs := by
 unfold Tok.d Tok.cs; exact zql.2 ⟨[[_], [_], [_], [_]], rfl, zcg.2 ⟨_, _, rfl, zkv.2 rfl, zcg.2 ⟨_, _, rfl, zvr.2 rfl, zcg.2 ⟨_, _, rfl, zkv.2 rfl, zcg.2 ⟨_, _, rfl, zkv.2 rfl, zdl.2 rfl⟩⟩⟩⟩⟩
abbrev zzw (a0 a1 a2 a6 : Nat) (pl pc e : Nat) (acc : List Tok) (v : zab) : List Thg :=
 [zes a0 none [.nilslice], zes a1 none [.int .i64 (pl : Int), .int .i64 (pc : Int)], zes a2 none [.int .i64 (e : Int)], zes a6 none [v], zg8 C30.base 4 (acc.map Tok.d) v]
section
variable {tf t : Tr zav} {Q : zbo} {sp ln cl off a0 a1 a2 a6 l : Nat} {src : List Nat} {r : zj1} {L : List Thg}
theorem zbe.delLp (h : zbe C30.base tf t (L ++ [oLp l r])) : zbe C30.base tf (t.del l) L := by
 have h1 := h.low l (by simp [oLp])
 have h2 : l ∉ L.flatMap Thg.blks := by
  have := zbe.notin (A := L) (B := []) (o := oLp l r) h (k := l) (by simp [oLp])
  rwa [ycd] at this
 have h3 := zbe.drop (A := L) (B := []) (o := oLp l r) h
 rw [ycd] at h3; exact h3.other h2 h1.2 fun c hc => by rw [Tr.get_del, yaa hc]
theorem zbe.setLp (h : zbe C30.base tf t L) (hn : t.get l = none) (hb : C30.base <= l) : zbe C30.base tf (t.set l (.loop r)) (L ++ [oLp l r]) := by
 have := zbe.add (A := L) (B := []) (o' := oLp l r) (t' := t.set l (.loop r)) (by rwa [ycd]) (fun k hk => by rw [Tr.get_set, yaa (fun e => hk (by simp [oLp, e]))]) (fun k hk => by simp [oLp] at hk; subst hk; exact ⟨hn, hb⟩) (by show (t.set l (.loop r)).get l = _; rw [Tr.get_set, yab rfl]) (by simp [oLp]) (h.tle.trans (zff hn _).1)
 exact this
def YldR (l : Nat) (r : zj1) (a0 a1 a2 a6 : Nat) : Prop := ∀ args t1 Q1, args.length = 2 -> t1.get l = some (.loop r) -> Jq C30 F 22 2 ([.ptr a0 0, .ptr a1 0, .ptr a2 0, .ptr a6 0] ++ args) (t1.del l) (fun v t2 => t2.get l = none -> ∃ b, v = .bool b /\ Q1 v (t2.set l (.loop (zlf b r)))) -> Wq C30 F zct (yo + l) args t1 Q1
theorem zzg6 (h1 : r.state = .ready) (h2 : r.pending = none) : zlf true r = r := by
 obtain ⟨a, b, c, d, e, f, g, h, i⟩ := r
 have h1 : a = .ready := h1
 have h2 : b = none := h2
 subst h1; subst h2; rfl
theorem zq7 {acc : List Tok} {v : zab} {x : Tok} (hy : YldR l r a0 a1 a2 a6) (hr1 : r.state = .ready) (hr2 : r.pending = none) (hlen : acc.length < 300000)
  (h : zbe C30.base tf t (zzw a0 a1 a2 a6 0 0 0 acc v ++ L ++ [oLp l r])) (hQ : ∀ tf' t' v', TLe tf tf' -> zbe C30.base tf' t' (zzw a0 a1 a2 a6 0 0 0 (acc ++ [x]) v' ++ L ++ [oLp l r]) -> Q (.bool true) t') :
  Wq C30 F zct (yo + l) [.agg x.cs, .int .i64 0] t Q := by
 have hl : t.get l = some (.loop r) := h.ok (oLp l r) (by simp)
 have hlb := (h.low l (by simp [oLp])).1
 refine hy _ _ _ rfl hl ?_
 have h1 := zbe.delLp h
 refine j22_2 ?_
 unfold zzl2; refine zag rfl (zaz (by decide) ?_)
 have lv : zao C30 66 ⟨0, t.del l⟩ (.ptr a6 0) = some v := (zbe.cel (A := [_, _, _]) h1).load1 z6b rfl rfl
 refine zat lv (zau fun b hb _ => ?_)
 have hf : zlm (fun i => some (i * 4, 4)) [(0, .agg x.cs)] (zqg [.int .u8 0, .str [], .int .i64 0, .int .i64 0] 1) = some [x.cs].flatten := by
  rw [zzh4 (sz := 4) (z := [.int .u8 0, .str [], .int .i64 0, .int .i64 0]) (v := .agg x.cs) rfl rfl]; rfl
 obtain ⟨tf1, t1, k1, k2, k3, k4⟩ := litN (C := C30) (T := 66) (el := 75) (sz := 4) (n := 1) (ds := [x.d]) (cl := [x.cs]) (ps := [(0, .agg x.cs)]) z6b rfl ty75 rfl rfl (by decide) hf (one_cl rfl) rfl (zcg.2 ⟨_, _, rfl, tok_rd x, zdl.2 rfl⟩) h1 hb
 refine ⟨_, _, k1, zau fun c hc hcb => ?_⟩
 obtain ⟨t2, v2, m1, m2, m3⟩ := zbe.append1 (A := [zes a0 none [.nilslice], zes a1 none [.int .i64 0, .int .i64 0], zes a2 none [.int .i64 0], zes a6 none [v]]) (B := L) (cs := []) el66 k3 k4 (by simp; omega) hc hcb
 refine ⟨_, _, m1, zau fun q _ _ => ?_⟩
 have hcell : v2.cells = [v2] := by
  have := m2.ok (zg8 C30.base 4 (acc.map Tok.d ++ [x.d]) v2) (by simp)
  rcases this with ⟨e, _⟩ | ⟨b, cl, c, e, _⟩ <;> (subst e; rfl)
 obtain ⟨t3, n1, n2⟩ := zbe.setCel (A := [zes a0 none [.nilslice], zes a1 none [.int .i64 0, .int .i64 0], zes a2 none [.int .i64 0]]) (j := 0) (v := v2) m2 z6b (by rw [hcell]; rfl) (by rw [hcell]; show 0 + 1 <= 1; omega) (by rw [hcell, zc5]; simp [m3])
 refine ⟨_, _, n1 q, fun hn => ⟨true, rfl, ?_⟩⟩
 rw [zzg6 hr1 hr2]; have e : zl9 [v] 0 v2.cells = [v2] := by rw [hcell]; rfl
 rw [e] at n2; refine hQ tf1 _ v2 k2 ?_
 have hs := zbe.setLp (r := r) n2 hn hlb
 rw [show acc.map Tok.d ++ [x.d] = (acc ++ [x]).map Tok.d by simp] at hs
 exact hs
theorem zzfj {acc : List Tok} {v : zab} {e pl pc : Nat} (hy : YldR l r a0 a1 a2 a6) (he : e ≠ 0)
  (h : zbe C30.base tf t (zzw a0 a1 a2 a6 0 0 0 acc v ++ L ++ [oLp l r])) (hQ : ∀ t', zbe C30.base tf t' (zzw a0 a1 a2 a6 pl pc e acc v ++ L ++ [oLp l (zlf false r)]) -> Q (.bool false) t') :
  Wq C30 F zct (yo + l) [.agg [.int .u8 0, .str [], .int .i64 (pl : Int), .int .i64 (pc : Int)], .int .i64 (e : Int)] t Q := by
 have hl : t.get l = some (.loop r) := h.ok (oLp l r) (by simp)
 have hlb := (h.low l (by simp [oLp])).1
 refine hy _ _ _ rfl hl ?_
 have h1 := zbe.delLp h
 refine j22_2 ?_
 unfold zzl2; refine zag rfl (zag (by rw [zc0]; simp; omega) (zau fun q _ _ => ?_))
 obtain ⟨t1, n1, n2⟩ := zbe.setCel (A := []) (j := 0) (v := .nilslice) h1 z6b rfl (by show 0 + 1 <= 1; omega) rfl
 have hs : same 10 (.agg [.int .i64 (pl : Int), .int .i64 (pc : Int)]) (.agg [.int .i64 (pl : Int), .int .i64 (pc : Int)]) = true := by
  show (same 9 (.int .i64 (pl : Int)) (.int .i64 (pl : Int)) && (same 9 (.int .i64 (pc : Int)) (.int .i64 (pc : Int)) && true)) = true
  rw [zqr, zqr]; rfl
 refine ⟨_, _, n1 q, zag hs (zau fun q _ _ => ?_)⟩
 obtain ⟨t2, m1, m2⟩ := zbe.setCel (A := [_]) (j := 0) (v := .agg [.int .i64 (pl : Int), .int .i64 (pc : Int)]) n2 z85 rfl (by show 0 + 2 <= 2; omega) rfl
 refine ⟨_, _, m1 q, zau fun q _ _ => ?_⟩
 obtain ⟨t3, p1, p2⟩ := zbe.setCel (A := [_, _]) (j := 0) (v := .int .i64 (e : Int)) m2 zzfs rfl (by show 0 + 1 <= 1; omega) rfl
 exact ⟨_, _, p1 q, fun hn => ⟨false, rfl, hQ _ (zbe.setLp p2 hn hlb)⟩⟩
theorem z3u {args : List zab} : zkx (.func (.yld l) [] []) args = some (yo + l, args) := rfl
abbrev opB (op : Option (Nat × Nat)) : Bool := op.isSome
theorem zzfv {bx : Nat} (hy : YldR l r a0 a1 a2 a6) (hr1 : r.state = .ready) (hr2 : r.pending = none) (hlen : src.length <= 65536) (hby : ∀ b ∈ src, b < 256) :
  ∀ (k off ln cl : Nat) (op : Option (Nat × Nat)) (i0 i1 : Int) (acc : List Tok) (v : zab) (tf t : Tr zav), src.length - off < k -> off <= src.length -> ln <= off + 1 -> cl <= off + 1 -> acc.length <= 2 * off -> (op.isSome = true -> acc.length + 1 <= 2 * off) -> (∀ p, op = some p -> i0 = (p.1 : Int) /\ i1 = (p.2 : Int)) →
   zfc tf -> Cel tf bx none [.str src] -> zbe C30.base tf t (zzw a0 a1 a2 a6 0 0 0 acc v ++ [oSc sp src ln cl off] ++ [oLp l r]) →
   (match zed k (src.drop off) ln cl op with
    | .ok m => ∀ tf' t' v' ln' cl' off', TLe tf tf' -> zbe C30.base tf' t' (zzw a0 a1 a2 a6 0 0 0 (acc ++ m) v' ++ [oSc sp src ln' cl' off'] ++ [oLp l r]) -> Q (.tup []) t'
    | .er e pl pc => ∀ tf' t' v' acc' ln' cl' off', TLe tf tf' -> zbe C30.base tf' t' (zzw a0 a1 a2 a6 pl pc e acc' v' ++ [oSc sp src ln' cl' off'] ++ [oLp l (zlf false r)]) -> Q (.tup []) t') →
   jp 76 2 [.func (.yld l) [] [], .ptr bx 0, .ptr sp 0, .bool op.isSome, .int .i64 i0, .int .i64 i1] t Q := by
 intro k; induction k with
 | zero => intro off; omega
 | succ k ih =>
  intro off ln cl op i0 i1 acc v tf t hk hoff hln hcl hacc hacc2 hop hg hbx h hQ; have ho := zy6 (A := zzw a0 a1 a2 a6 0 0 0 acc v) (B := [oLp l r]) (by simpa using h)
  have hA : zbe C30.base tf t (zzw a0 a1 a2 a6 0 0 0 acc v ++ oSc sp src ln cl off :: [oLp l r]) := by simpa using h
  have hlb : ∀ {t}, TLe tf t -> zao C30 9 ⟨0, t⟩ (.ptr bx 0) = some (.str src) := fun hl => (Cel.le hbx hl).load1 ty9 rfl rfl
  refine j76_2 ?_
  unfold t76_2 uI uS uU uB uG; refine zah g2 (zat ho (zaw (zat (hlb h.tle) (zcc ?_))))
  rw [ze8]; by_cases hlt : off < src.length
  ·have hx : src[off]? = some src[off] := ybd hlt
   have hdrop : src.drop off = src[off] :: src.drop (off + 1) := ybl hlt
   rw [hdrop] at hQ; unfold zed at hQ; refine zag (by rw [zbu]; exact decide_eq_true (by omega)) (zat (hlb h.tle) (zcc (zah g2 (zat ho (zaw (zah (zcl hx) (zaw ?_)))))))
   by_cases h10 : src[off] = 10
   ·rw [yab h10] at hQ
    refine zag (by rw [zc0, h10]; rfl) ?_
    have nlg : ∀ (acc' : List Tok) (v' : zab) (tf1 t1 : Tr zav), acc'.length <= 2 * (off + 1) -> TLe tf tf1 -> zbe C30.base tf1 t1 (zzw a0 a1 a2 a6 0 0 0 acc' v' ++ [oSc sp src ln cl off] ++ [oLp l r]) →
      (match zed k (src.drop (off + 1)) (ln + 1) 1 none with
       | .ok m => ∀ tf' t' v' ln' cl' off', TLe tf1 tf' -> zbe C30.base tf' t' (zzw a0 a1 a2 a6 0 0 0 (acc' ++ m) v' ++ [oSc sp src ln' cl' off'] ++ [oLp l r]) -> Q (.tup []) t'
       | .er e pl pc => ∀ tf' t' v' acc' ln' cl' off', TLe tf1 tf' -> zbe C30.base tf' t' (zzw a0 a1 a2 a6 pl pc e acc' v' ++ [oSc sp src ln' cl' off'] ++ [oLp l (zlf false r)]) -> Q (.tup []) t') →
      wp 76 (.call 77 [.ptr sp 0] fun _ => .jump 2 [.func (.yld l) [] [], .ptr bx 0, .ptr sp 0, .bool false, uZ i0, uZ i1]) t1 Q := by
     intro acc' v' tf1 t1 ha hle h1 hQ1; refine zam ?_
     rw [q77]; refine z61 (A := zzw a0 a1 a2 a6 0 0 0 acc' v') (B := [oLp l r]) (by simpa using h1) (by omega) (by omega) fun t2 h2 => ?_
     exact za3 (ih (off + 1) (ln + 1) 1 none i0 i1 acc' v' tf1 t2 (by omega) (by omega) (by omega) (by omega) ha (fun h => by cases h) (fun p hp => by cases hp) (hg.mono hle) (Cel.le hbx hle) (by simpa using h2) hQ1)
    cases op with
    | some p =>
     obtain ⟨e0, e1⟩ := hop p rfl
     subst e0 e1
     refine zag rfl (zag rfl (zj3 z3u ?_))
     refine zq7 (x := endT p) (L := [oSc sp src ln cl off]) hy hr1 hr2 (by omega) h fun tf1 t1 v1 k1 k2 => ?_
     refine zcf (zaz (by simp) (nlg (acc ++ [endT p]) v1 tf1 t1 (by have := hacc2 rfl; simp; omega) k1 k2 ?_))
     unfold LR.close at hQ; revert hQ
     generalize zed k (src.drop (off + 1)) (ln + 1) 1 none = res
     intro hQ
     cases res with
     | ok m => exact fun tf' t' v' ln' cl' off' q1 q2 => hQ tf' t' v' ln' cl' off' (k1.trans q1) (by simpa using q2)
     | er e pl pc => exact fun tf' t' v' acc' ln' cl' off' q1 q2 => hQ tf' t' v' acc' ln' cl' off' (k1.trans q1) q2
    | none =>
     refine zaz (by simp) (nlg acc v tf t (by omega) (TLe.refl _) h ?_)
     exact hQ
   rw [yaa h10] at hQ; refine zaz (by rw [zc0]; simp; omega) ?_
   have blank : ∀ n : Nat, off + n <= src.length -> 0 < n -> (match zed k (src.drop (off + n)) ln (cl + n) op with
     | .ok m => ∀ tf' t' v' ln' cl' off', TLe tf tf' -> zbe C30.base tf' t' (zzw a0 a1 a2 a6 0 0 0 (acc ++ m) v' ++ [oSc sp src ln' cl' off'] ++ [oLp l r]) -> Q (.tup []) t'
     | .er e pl pc => ∀ tf' t' v' acc' ln' cl' off', TLe tf tf' -> zbe C30.base tf' t' (zzw a0 a1 a2 a6 pl pc e acc' v' ++ [oSc sp src ln' cl' off'] ++ [oLp l (zlf false r)]) -> Q (.tup []) t') →
     wp 76 (.call 78 [.ptr sp 0, .int .i64 (n : Int)] fun _ => .jump 2 [.func (.yld l) [] [], .ptr bx 0, .ptr sp 0, .bool op.isSome, uZ i0, uZ i1]) t Q := by
    intro n hn hn0 hQ1; refine zam ?_
    rw [q78]; refine zzai hA (by omega) (by omega) fun t2 h2 => ?_
    exact za3 (ih (off + n) ln (cl + n) op i0 i1 acc v tf t2 (by omega) hn (by omega) (by omega) (by omega) (fun h => by have := hacc2 h; omega) hop hg hbx (by simpa using h2) hQ1)
   by_cases h32 : src[off] = 32
   ·rw [yab (.inl h32)] at hQ
    exact zag (by rw [zc0, h32]; rfl) (blank 1 (by omega) (by omega) hQ)
   refine zaz (by rw [zc0]; simp; omega) ?_
   by_cases h9 : src[off] = 9
   ·rw [yab (.inr h9)] at hQ
    exact zag (by rw [zc0, h9]; rfl) (blank 1 (by omega) (by omega) hQ)
   rw [yaa (by simp [h32, h9])] at hQ
   refine zaz (by rw [zc0]; simp; omega) ?_
   by_cases h35 : src[off] = 35
   ·rw [yab h35] at hQ
    have hrl := zlw (fun x => decide (x ≠ 10)) (src.drop off)
    rw [ydj] at hrl; have hr0 : 0 < (zit (fun x => decide (x ≠ 10)) (src.drop off)).length := by
     rw [hdrop]; unfold zit; rw [List.takeWhile_cons, yab (by simp [h10])]; simp
    refine zag (by rw [zc0, h35]; rfl) (zam ?_)
    rw [q79, zo2 hA (by omega), zaa]
    refine zcc (zam ?_)
    rw [q37, zzgn (by rw [ydj]; omega), zaa]
    refine zcc ?_
    rw [ze8]; rw [<- hdrop] at hQ; rw [List.drop_drop] at hQ; exact blank _ (by omega) hr0 hQ
   rw [yaa h35] at hQ; refine zaz (by rw [zc0]; simp; omega) (zam ?_)
   rw [<- hdrop] at hQ; rw [q81]; refine zzfu hg hA hlt hlen (by omega) hby fun t1 => ?_
   cases htk : zc8 (src.drop off) with
   | bad e =>
    rw [htk] at hQ; intro h1; have he : e ≠ 0 := by
     intro e0; subst e0; rw [hdrop] at htk; unfold zc8 at htk; simp only at htk
     repeat (split at htk <;> try (cases htk; done))
    refine zah rfl (zbq (X := cellsOf [.int .u8 0, .str [], .int .i64 (ln : Int), .int .i64 (cl : Int)]) (zg4 rfl) (zah rfl (zaw (zag rfl (zj3 z3u ?_)))))
    refine zzfj (pl := ln) (pc := cl) (L := [oSc sp src ln cl off]) hy he (by simpa using h1) fun t2 h2 => ?_
    exact zcf (zag rfl (hQ tf t2 v acc ln cl off (TLe.refl _) h2))
   | tok kd w =>
    rw [htk] at hQ; intro h1; obtain ⟨lw, _⟩ := zyu htk
    rw [ydj] at lw; have hw0 : 0 < w.length := by
     rw [hdrop] at htk; unfold zc8 at htk; simp only at htk
     split at htk
     ·rename_i hl
      split at htk
      ·cases htk
      ·cases htk
       unfold zit; rw [List.takeWhile_cons, yab (by unfold zcr; rw [hl]; rfl)]; simp
     split at htk
     ·rename_i hd
      split at htk
      ·cases htk
      ·cases htk; rw [yda, ybn]; omega
     split at htk
     ·rename_i hd _
      split at htk
      ·cases htk
      ·cases htk
       have : 0 < zb7 (src[off] :: src.drop (off + 1)) := by
        have : 0 < (zbh (src[off] :: src.drop (off + 1))).length := by
         unfold zbh zit; rw [List.takeWhile_cons, yab (by assumption)]; simp
        unfold zb7; split <;> omega
       rw [yda, ybn]; omega
     split at htk
     ·cases htk; simp
     ·cases htk
    refine zah rfl (zbq (X := cellsOf [.int .u8 (kd : Int), .str w, .int .i64 (ln : Int), .int .i64 (cl : Int)]) (zg4 rfl) (zah rfl (zaw (zag rfl (zj3 z3u ?_)))))
    refine zq7 (acc := acc) (v := v) (x := ⟨kd, w, ln, cl⟩) (L := [oSc sp src ln (cl + w.length) (off + w.length)]) hy hr1 hr2 (by omega) (by simpa using h1) fun tf2 t2 v2 k1 k2 => ?_
    have hA2 : zbe C30.base tf2 t2 (zzw a0 a1 a2 a6 0 0 0 (acc ++ [⟨kd, w, ln, cl⟩]) v2 ++ oSc sp src ln (cl + w.length) (off + w.length) :: [oLp l r]) := by simpa using k2
    refine zcf (zaz (by simp) (zaz (by decide) (zah g0 (zat (sc_pl hA2) (zbq (X := cellsOf [.int .i64 (ln : Int), .int .i64 ((cl + w.length : Nat) : Int)]) (zg4 rfl) (zag rfl (za3 ?_)))))))
    refine ih (off + w.length) ln (cl + w.length) (some (ln, cl + w.length)) _ _ (acc ++ [⟨kd, w, ln, cl⟩]) v2 tf2 t2 (by omega) (by omega) (by omega) (by omega) (by simp; omega) (fun _ => by simp; omega) (fun p hp => by cases hp; exact ⟨rfl, rfl⟩) (hg.mono k1) (Cel.le hbx k1) k2 ?_
    have hdd : (src.drop off).drop w.length = src.drop (off + w.length) := by rw [List.drop_drop]
    simp only [hdd] at hQ; unfold LR.cons at hQ; revert hQ
    generalize zed k (src.drop (off + w.length)) ln (cl + w.length) (some (ln, cl + w.length)) = res
    intro hQ
    cases res with
    | ok m => exact fun tf' t' v' ln' cl' off' q1 q2 => hQ tf' t' v' ln' cl' off' (k1.trans q1) (by simpa using q2)
    | er e pl pc => exact fun tf' t' v' acc' ln' cl' off' q1 q2 => hQ tf' t' v' acc' ln' cl' off' (k1.trans q1) q2
  ·have hdrop : src.drop off = [] := ybt (by omega)
   rw [hdrop] at hQ; unfold zed at hQ; refine zaz (by rw [zbu]; simp; omega) ?_
   cases op with
   | some p =>
    obtain ⟨e0, e1⟩ := hop p rfl
    subst e0 e1
    refine zag rfl (zag rfl (zj3 z3u ?_))
    refine zq7 (x := endT p) (L := [oSc sp src ln cl off]) hy hr1 hr2 (by omega) h fun tf1 t1 v1 k1 k2 => ?_
    exact zcf (hQ tf1 t1 v1 ln cl off k1 k2)
   | none =>
    refine zaz (by simp) ?_
    have := hQ tf t v ln cl off (TLe.refl _) (by simpa using h)
    exact this
end
end Go.Proofs
namespace Go.Proofs
open Go Go.Am
variable [zb1]
def zqw (s : List Nat) : LR := if 65536 < s.length then .er 3 0 0 else lexN s
section
variable {t : Tr zav} {Q : zbo} {s : List Nat}
theorem lex_ok (hg : zfc t) (hby : ∀ b ∈ s, b < 256)
  (hQ : match zqw s with
   | .ok m => ∀ t' v, TLe t t' -> RSl t' 4 (m.map Tok.d) v -> Q (.tup [v, .agg [.int .i64 0, .int .i64 0], .int .i64 0]) t'
   | .er e a b => ∀ t', TLe t t' -> Q (.tup [.nilslice, .agg [.int .i64 (a : Int), .int .i64 (b : Int)], .int .i64 (e : Int)]) t') : Wc C30 F 22 [.str s] t Q := by
 have ho : zbe C30.base t t [] := ⟨TLe.refl _, by simp, by simp, by simp⟩
 refine w22 ?_
 unfold t22; refine zau fun a0 h0 b0 => ?_
 obtain ⟨t1, e1, e2, e3, e4⟩ := zeh (C := C30) z6b h0
 have o1 := zbe.newCel (A := []) (B := []) ho h0 b0 e2 e3 e4
 refine ⟨_, _, e1, zau fun a1 h1 b1 => ?_⟩
 obtain ⟨t2, f1, f2, f3, f4⟩ := zeh (C := C30) z85 h1
 have o2 := zbe.newCel (A := [_]) (B := []) o1 h1 b1 f2 f3 f4
 refine ⟨_, _, f1, zau fun a2 h2 b2 => ?_⟩
 obtain ⟨t3, k1, k2, k3, k4⟩ := zeh (C := C30) zzfs h2
 have o3 := zbe.newCel (A := [_, _]) (B := []) o2 h2 b2 k2 k3 k4
 refine ⟨_, _, k1, ?_⟩
 rw [ze8]; have ends : ∀ {tf t' : Tr zav} {L : List Thg} {v : zab} {a b e : Nat}, zab.one v = true -> zbe C30.base tf t' ([zes a0 none [v], zes a1 none [.int .i64 (a : Int), .int .i64 (b : Int)], zes a2 none [.int .i64 (e : Int)]] ++ L) →
   zao C30 66 ⟨0, t'⟩ (.ptr a0 0) = some v /\ zao C30 29 ⟨0, t'⟩ (.ptr a1 0) = some (.agg [.int .i64 (a : Int), .int .i64 (b : Int)]) /\ zao C30 30 ⟨0, t'⟩ (.ptr a2 0) = some (.int .i64 (e : Int)) := by
  intro tf t' L v a b e _ h; refine ⟨(zbe.cel (A := []) h).load1 z6b rfl rfl, ?_, (zbe.cel (A := [_, _]) h).load1 zzfs rfl rfl⟩
  have := (zbe.cel (A := [_]) h).at.load (j := 0) (n := 2) z85 rfl rfl (by simp)
  simpa using this
 by_cases hl : 65536 < s.length
 ·have hx : zqw s = .er 3 0 0 := by unfold zqw; rw [yab hl]
  rw [hx] at hQ; refine zag (by rw [zbu]; exact decide_eq_true (by omega)) (zag rfl (zau fun q _ _ => ?_))
  obtain ⟨t4, n1, n2⟩ := zbe.setCel (A := []) (j := 0) (v := .nilslice) o3 z6b rfl (by show 0 + 1 <= 1; omega) rfl
  refine ⟨_, _, n1 q, zau fun q _ _ => ?_⟩
  obtain ⟨t5, m1, m2⟩ := zbe.setCel (A := [_]) (j := 0) (v := .agg [.int .i64 0, .int .i64 0]) n2 z85 rfl (by show 0 + 2 <= 2; omega) rfl
  refine ⟨_, _, m1 q, zau fun q _ _ => ?_⟩
  obtain ⟨t6, p1, p2⟩ := zbe.setCel (A := [_, _]) (j := 0) (v := .int .i64 3) m2 zzfs rfl (by show 0 + 1 <= 1; omega) rfl
  obtain ⟨l1, l2, l3⟩ := ends (L := []) (a := 0) (b := 0) (e := 3) (v := .nilslice) rfl p2
  exact ⟨_, _, p1 q, zat l1 (zat l2 (zat l3 (hQ t6 p2.tle)))⟩
 ·have hx : zqw s = lexN s := by unfold zqw; rw [yaa hl]
  rw [hx] at hQ; refine zaz (by rw [zbu]; simp; omega) (zau fun a6 h6 b6 => ?_)
  obtain ⟨t4, n1, n2, n3, n4⟩ := zeh (C := C30) z6b h6
  have o4 := zbe.newCel (A := [_, _, _]) (B := []) o3 h6 b6 n2 n3 n4
  refine ⟨_, _, n1, zam ?_⟩
  rw [q49]; refine w49 ?_
  unfold t49; refine zau fun bx hbx bbx => ?_
  obtain ⟨t5, m1, ⟨cc, m2, m2'⟩, m3, m4⟩ := zxx (v := .str s) hbx
  have o5 := o4.junk hbx m4
  have hfb := o4.tfn hbx
  obtain ⟨p1, p2⟩ := o5.froze (fun hm => o4.fresh hbx hm) m2 hfb
  generalize htf : t.set bx (zav.cells cc (zab.str s).cells.length none) = tf1 at p1 p2
  have hcb : Cel tf1 bx none [.str s] := ⟨cc, by rw [<- htf, Tr.get_set, yab rfl]; rfl, m2'⟩
  refine ⟨_, _, m1, ?_⟩
  show wpT _ _ _ (.range (npC C30) (.func (.func 76) [] [.ptr bx 0]) 2 2 [.ptr a0 0, .ptr a1 0, .ptr a2 0, .ptr a6 0] _ _) _ _
  refine ⟨Nat.le_add_right _ _, fun l r hl0 hlb hr1 hr2 hy => ?_⟩
  have hra : zgv (npC C30) (.func (.func 76) [] [.ptr bx 0]) l = some (76, [.func (.yld l) [] [], .ptr bx 0]) := by
   unfold zgv; simp only [zab.asFunc, zad]; have : npC C30 76 = true := by kernel_rfl
   rw [this]; rfl
  rw [hra, zaa]; show Wq C30 F zct 76 _ _ _
  rw [q76]; have o6 := zbe.setLp (r := r) p1 hl0 hlb
  have hyr : YldR l r a0 a1 a2 a6 := fun args t1 Q1 h1 h2 h3 => hy args t1 Q1 h1 h2 h3
  refine w76 ?_
  unfold t76 uS; have lb : zao C30 9 ⟨0, t5.set l (.loop r)⟩ (.ptr bx 0) = some (.str s) := (Cel.le hcb o6.tle).load1 ty9 rfl rfl
  refine zag rfl (zat lb (zcc (zag rfl (zau fun sp hsp bsp => ?_))))
  obtain ⟨t7, r1, r2, r3, r4⟩ := zeh (C := C30) ty145 hsp
  have o7 := zbe.newCel (A := [_, _, _, _]) (B := [oLp l r]) o6 hsp bsp r2 r3 r4
  refine ⟨_, _, r1, zau fun q _ _ => ?_⟩
  obtain ⟨t8, s1, s2⟩ := zbe.setCel (A := [_, _, _, _]) (j := 0) (v := .agg [.int .i64 1, .int .i64 1, .str s, .int .i64 0]) o7 ty145 rfl (by show 0 + 4 <= 4; omega) rfl
  refine ⟨_, _, s1 q, za3 ?_⟩
  have o8 : zbe C30.base tf1 t8 (zzw a0 a1 a2 a6 0 0 0 [] .nilslice ++ [oSc sp s 1 1 0] ++ [oLp l r]) :=
   zbe.add (A := [zes a0 none [.nilslice], zes a1 none [.int .i64 0, .int .i64 0], zes a2 none [.int .i64 0], zes a6 none [.nilslice]]) (B := [oSc sp s 1 1 0, oLp l r]) (o' := zg8 C30.base 4 (([] : List Tok).map Tok.d) .nilslice) s2 (fun _ _ => rfl) (fun k hk => by simp [zg8, zzoa] at hk) (.inl ⟨rfl, rfl⟩) (by simp [zg8, zzoa]) s2.tle
  refine zzfv hyr hr1 hr2 (by omega) hby (s.length + 1) 0 1 1 none 0 0 [] .nilslice tf1 t8 (by omega) (by omega) (by omega) (by omega) (by simp) (fun h => by cases h) (fun p hp => by cases hp) (hg.mono p2) hcb o8 ?_
  rw [ycr]; unfold lexN at hQ; revert hQ
  generalize zed (s.length + 1) s 1 1 none = res
  intro hQ
  cases res with
  | ok m =>
   intro tf' t' v' ln' cl' off' u1 u2; rw [yah] at u2; refine .inl ⟨u2.ok (oLp l r) (by simp), ?_⟩
   have u3 := zbe.delLp u2
   have lv : zao C30 66 ⟨0, t'.del l⟩ (.ptr a6 0) = some v' := (zbe.cel (A := [_, _, _]) u3).load1 z6b rfl rfl
   have hv : ztj C30.base tf' (t'.del l) 4 (m.map Tok.d) v' := u3.ok (zg8 C30.base 4 (m.map Tok.d) v') (by simp)
   have hone : zab.one v' = true := hv.one
   have hcell : v'.cells = [v'] := by
    rcases hv with ⟨e, _⟩ | ⟨b, cl, c, e, _⟩ <;> (subst e; rfl)
   refine zat lv (zag rfl (zau fun q _ _ => ?_))
   obtain ⟨t9, x1, x2⟩ := zbe.setCel (A := []) (j := 0) (v := v') u3 z6b (by rw [hcell]; rfl) (by rw [hcell]; show 0 + 1 <= 1; omega) (by rw [hcell, zc5]; simp [hone])
   have e9 : zl9 [zab.nilslice] 0 v'.cells = [v'] := by rw [hcell]; rfl
   rw [e9] at x2; refine ⟨_, _, x1 q, zau fun q _ _ => ?_⟩
   obtain ⟨t10, y1, y2⟩ := zbe.setCel (A := [_]) (j := 0) (v := .agg [.int .i64 0, .int .i64 0]) x2 z85 rfl (by show 0 + 2 <= 2; omega) rfl
   refine ⟨_, _, y1 q, zau fun q _ _ => ?_⟩
   obtain ⟨t11, z1, z2⟩ := zbe.setCel (A := [_, _]) (j := 0) (v := .int .i64 0) y2 zzfs rfl (by show 0 + 1 <= 1; omega) rfl
   obtain ⟨l1, l2, l3⟩ := ends (L := [_, _, _]) (a := 0) (b := 0) (e := 0) hone z2
   refine ⟨_, _, z1 q, zat l1 (zat l2 (zat l3 ?_))⟩
   obtain ⟨tf2, w1, w2, w3⟩ := zbe.freezeL (A := [_, _, _, _]) (B := [oSc sp s ln' cl' off']) z2
   exact hQ t11 v' (p2.trans (u1.trans z2.tle)) (w3.mono w2.tle)
  | er e pl pc =>
   intro tf' t' v' acc' ln' cl' off' u1 u2; refine .inr ⟨u2.ok (oLp l (zlf false r)) (by simp), ?_⟩
   have u3 := zbe.delLp u2
   obtain ⟨l1, l2, l3⟩ := ends (L := [_, _, _]) (v := .nilslice) rfl u3
   exact zat l1 (zat l2 (zat l3 (hQ _ (p2.trans (u1.trans u3.tle)))))
def zgi (s : List Nat) : Nat := (s.reverse.takeWhile fun b => decide (b ≠ 10)).length
theorem zzmx (hl : s.length < 1000000) : pvC C30 F 55 [.str s, .int .u8 10] t = some (.int .i64 ((s.length : Int) - 1 - (zgi s : Int))) := by
 have loop : ∀ (k : Nat), k <= s.length -> zgi s = (s.length - k) + zgi (s.take k) -> jp 87 2 [.str s, .int .u8 10, .int .i64 ((k : Int) - 1)] t fun v t' => v = .int .i64 ((s.length : Int) - 1 - (zgi s : Int)) /\ t' = t := by
  intro k; induction k with
  | zero =>
   intro hk he; refine j87_2 ?_
   unfold zzly; refine zaz (by rw [zmb]; simp) ⟨?_, rfl⟩
   rw [List.take_zero] at he; have : zgi [] = 0 := rfl
   congr 1
   omega
  | succ k ih =>
   intro hk he; have hx : s[k]? = some s[k] := ybd (by omega)
   have e1 : ((k + 1 : Nat) : Int) - 1 = (k : Int) := by omega
   refine j87_2 ?_
   unfold zzly uU; rw [e1]; refine zag (by rw [zmb]; exact decide_eq_true (by omega)) (zah (zcl hx) (zaw ?_))
   have hc : zgi (s.take (k + 1)) = if s[k] = 10 then 0 else zgi (s.take k) + 1 := by
    unfold zgi; rw [zdd hx, List.reverse_append, List.reverse_singleton, List.singleton_append, List.takeWhile_cons]; by_cases h10 : s[k] = 10
    ·simp [h10]
    ·simp [h10]
   by_cases h10 : s[k] = 10
   ·rw [yab h10] at hc
    refine zag (by rw [zc0, h10]; rfl) ⟨?_, rfl⟩
    congr 1
    omega
   ·rw [yaa h10] at hc
    refine zaz (by rw [zc0]; simp; omega) (za3 ?_)
    have e2 : uW ((k : Int) - 1) = (k : Int) - 1 := zan (by omega) (by omega)
    rw [e2]; exact ih (by omega) (by omega)
 refine zbg.2 (w55 ?_)
 unfold t55 uI; refine zam ?_
 have h87 : pvC C30 F 87 [.str s, .int .u8 10] t = some (.int .i64 ((s.length : Int) - 1 - (zgi s : Int))) := by
  refine zbg.2 (w87 ?_)
  unfold t87; rw [ze8]; have e2 : uW ((s.length : Int) - 1) = (s.length : Int) - 1 := zan (by omega) (by omega)
  rw [e2]; exact za3 (loop s.length (ybk _) (by rw [List.take_length]; omega))
 rw [q87, h87, zaa]; exact zaw ⟨rfl, rfl⟩
def atL (s : List Nat) : Nat := zjy 10 s + 1
def atC (s : List Nat) : Nat := zgi s + 1
theorem zzih (s : List Nat) : zjy 10 s <= s.length := by
 induction s with
 | nil => exact ybk _
 | cons b s ih =>
  have e : zjy 10 (b :: s) = bif Nat.beq b 10 then zjy 10 s + 1 else zjy 10 s := rfl
  rw [e, ybn]
  cases Nat.beq b 10 with
  | true => rw [cond_true]; omega
  | false => rw [cond_false]; omega
theorem z65 (s : List Nat) : zgi s <= s.length := by
 unfold zgi; have := (List.takeWhile_sublist (fun b => decide (b ≠ 10)) (l := s.reverse)).length_le
 rwa [List.length_reverse] at this
theorem at_pv (hl : s.length < 900000) {n : Nat} (hn : n <= s.length) : pvC C30 F 25 [.str s, .int .i64 (n : Int)] t = some (.agg [.int .i64 (atL (s.take n) : Int), .int .i64 (atC (s.take n) : Int)]) := by
 refine zbg.2 (w25 ?_)
 unfold t25 uS uI; have e0 : (bif iLt (Int.ofNat (zbf s)) (n : Int) then Int.ofNat (zbf s) else (n : Int)) = (n : Int) := by
  rw [ze8, zbu, decide_eq_false (by omega)]; rfl
 rw [e0]; have hlen : (s.take n).length = n := by rw [yda]; omega
 refine zaz (by rw [zbu]; simp) (zah (zj4 hn) (zcc (zam ?_)))
 have hgp : C30.prims.get 54 = some (zk9 zzm) := by kernel_rfl
 have hcn : pvC C30 F 54 [.str (s.take n), .str [10]] t = some (.int .i64 (zjy 10 (s.take n) : Int)) := zrv hgp fun H => rfl
 rw [q54, hcn, zaa]; refine zaw (zam ?_)
 rw [q55]; show zf8 (pvC C30 F 55 [.str (s.take n), .int .u8 10] t) _
 rw [zzmx (by omega), zaa]
 have h1 := zzih (s.take n)
 have h2 := z65 (s.take n)
 have e1 : uIn (zjy 10 (s.take n) : Int) = .int .i64 (atL (s.take n) : Int) := by
  show zab.int .i64 (zal .i64 ((zjy 10 (s.take n) : Int) + 1)) = _
  rw [zan (by omega) (by omega)]; rfl
 have e2 : uW (Int.ofNat (zbf (s.take n)) - (((s.take n).length : Int) - 1 - (zgi (s.take n) : Int))) = (atC (s.take n) : Int) := by
  unfold uW atC; rw [ze8, zan (by omega) (by omega)]; omega
 refine zaw (zag rfl (zag rfl ?_))
 rw [e1, e2]; exact ⟨rfl, rfl⟩
end
end Go.Proofs
namespace Go.Proofs
open Go Go.Am
variable [zb1]
def tRun (ty : Nat) (z : List zab) (cf : zg6 -> List zab) (p0 : List Nat) (p1 : zab) : T :=
 .heavy (ze9 C30 ty) fun a0 =>
 .heavy (ze9 C30 29) fun a1 =>
 .heavy (ze9 C30 30) fun a2 =>
 .call 22 [(.str p0)] fun a3 =>
 .opt (zb3 0 a3) fun a4 => .opt (zb3 1 a3) fun a5 => .asG [(.int .i64 0), (.int .i64 0)] a5 fun X6 =>
 .opt (zb3 2 a3) fun a7 => .asI .i64 a7 fun n8 => .heavy (za0 C30 29 a1 (.agg [(.int .i64 (X6.i 0)), (.int .i64 (X6.i 1))])) fun _ =>
 .heavy (za0 C30 30 a2 (.int .i64 n8)) fun _ =>
 .light (fun m => zao C30 30 ⟨0, m⟩ a2) fun a9 => .asI .i64 a9 fun n10 => .ite (!iEq n10 0)
 (.light (fun m => zao C30 ty ⟨0, m⟩ a0) fun a11 => .asG z a11 fun X12 =>
 .light (fun m => zao C30 29 ⟨0, m⟩ a1) fun a13 => .asG [(.int .i64 0), (.int .i64 0)] a13 fun X14 =>
 .light (fun m => zao C30 30 ⟨0, m⟩ a2) fun a15 => .asI .i64 a15 fun n16 => .heavy (za0 C30 ty a0 (.agg (cf X12))) fun _ =>
 .light (fun m => zao C30 29 ⟨0, m⟩ a1) fun a17 => .ite (same 10 a17 (.agg [(.int .i64 (X14.i 0)), (.int .i64 (X14.i 1))])) (.light (fun m => zao C30 30 ⟨0, m⟩ a2) fun a18 => .ite (same 10 a18 (.int .i64 n16)) (.heavy (za0 C30 29 a1 (.agg [(.int .i64 (X14.i 0)), (.int .i64 (X14.i 1))])) fun _ =>
 .light (fun m => zao C30 30 ⟨0, m⟩ a2) fun a19 => .ite (same 10 a19 (.int .i64 n16)) (.heavy (za0 C30 30 a2 (.int .i64 n16)) fun _ =>
 .light (fun m => zao C30 ty ⟨0, m⟩ a0) fun a20 => .light (fun m => zao C30 29 ⟨0, m⟩ a1) fun a21 => .light (fun m => zao C30 30 ⟨0, m⟩ a2) fun a22 => .ret (.tup [a20, a21, a22])) .fail) .fail) .fail)
 (.call 25 [(.str p0), (.int .i64 (Int.ofNat (zbf p0)))] fun a23 =>
 .asG [(.int .i64 0), (.int .i64 0)] a23 fun X24 =>
 .ite (zfh zab.one [a4]) (.heavy (zx9 (.agg [a4, (.int .i64 0), (.int .i64 0), (.int .i64 (X24.i 0)), (.int .i64 (X24.i 1))])) fun a25 =>
 .jump 11 [p1, a0, a1, a2, a25]) .fail)
def tR13 (ty : Nat) (z : List zab) (cf : zg6 -> List zab) (v1 v4 v5 v6 v8 : zab) : T :=
 .callv v1 [v8] fun a0 =>
 .asG z a0 fun X1 =>
 .ite true (.heavy (za0 C30 ty v4 (.agg (cf X1))) fun _ =>
 .heavy (za0 C30 29 v5 (.agg [(.int .i64 0), (.int .i64 0)])) fun _ =>
 .heavy (za0 C30 30 v6 (.int .i64 0)) fun _ =>
 .light (fun m => zao C30 ty ⟨0, m⟩ v4) fun a2 => .light (fun m => zao C30 29 ⟨0, m⟩ v5) fun a3 => .light (fun m => zao C30 30 ⟨0, m⟩ v6) fun a4 => .ret (.tup [a2, a3, a4])) .fail
def tR3 (ty : Nat) (z : List zab) (v0 v1 v2 v3 : zab) : T :=
 .opt ((zzfi .neq).f C30 20 (.tmp 8) (.const .nilIface) v3 .niliface) fun a0 => .asB a0 fun b1 => .ite b1
 (.heavy (za0 C30 ty v0 (.agg z)) fun _ =>
 .heavy (za0 C30 30 v1 (.int .i64 120)) fun _ =>
 .opt (zrf C30 123 true v3) fun a2 => .opt (zb3 0 a2) fun a3 => .asG [(.int .i64 0), (.int .i64 0), (.int .i64 0)] a3 fun X4 =>
 .opt (zb3 1 a2) fun a5 => .asB a5 fun b6 => .ite true (.ite b6
 (.heavy (za0 C30 29 v2 (.agg [(.int .i64 (X4.i 0)), (.int .i64 (X4.i 1))])) fun _ =>
 .ite (same 10 (.int .i64 (X4.i 2)) (.int .i64 (X4.i 2))) (.heavy (za0 C30 30 v1 (.int .i64 (X4.i 2))) fun _ =>
 .ret (.tup [])) .fail)
 (.ret (.tup []))) .fail)
 (.ret (.tup []))
def tRe (ty : Nat) (v4 v5 v6 : zab) : T := .light (fun m => zao C30 ty ⟨0, m⟩ v4) fun a2 => .light (fun m => zao C30 29 ⟨0, m⟩ v5) fun a3 => .light (fun m => zao C30 30 ⟨0, m⟩ v6) fun a4 => .ret (.tup [a2, a3, a4])
def L3 (b0 b1 b2 : Nat) (z : List zab) (a b k : Int) : List Thg := [zes b0 none z, zes b1 none [.int .i64 a, .int .i64 b], zes b2 none [.int .i64 k]]
structure RT (T : Nat) (z : List zab) (cf : zg6 -> List zab) : Prop where
 ty : ∃ y, C30.tys.get T = some y /\ y.desc.isAgg = true /\ y.zero = z /\ y.size = z.length
 one : zfh zab.one z = true
 ag : zt6 z (.agg z) = some (cellsOf z)
 cf : cf (cellsOf z) = z
section
variable {t tf : Tr zav} {Q : zbo} {s : List Nat} {T : Nat} {z : List zab} {cf : zg6 -> List zab} {J : zd3} {A B : List Thg} {b0 b1 b2 : Nat} {cs : List zab} {a b k : Int} {W : zd3}
theorem ldS {y : ATy} (h : zbe C30.base tf t (A ++ zes b0 none cs :: B)) (hT : C30.tys.get T = some y) (ha : y.desc.isAgg = true) (hs : y.size = cs.length) : zao C30 T ⟨0, t⟩ (.ptr b0 0) = some (.agg cs) := by
 have := h.cel.at.load (j := 0) (n := cs.length) hT ha hs (by omega)
 simpa using this
theorem stS {y : ATy} {cs' : List zab} (h : zbe C30.base tf t (A ++ zes b0 none cs :: B)) (hT : C30.tys.get T = some y) (hs : y.size = cs.length) (hl : cs'.length = cs.length) (hone : zfh zab.one cs' = true) : ∃ t', (∀ q, za0 C30 T (.ptr b0 0) (.agg cs') ⟨q, t⟩ = some (zbj, ⟨q, t'⟩)) /\ zbe C30.base tf t' (A ++ zes b0 none cs' :: B) := by
 obtain ⟨t', h1, h2⟩ := zbe.setCel (j := 0) (v := .agg cs') h hT (by show cs'.length = _; omega) (by show 0 + cs'.length <= _; omega) hone
 refine ⟨t', h1, ?_⟩
 have hov : zl9 cs 0 cs' = cs' := by
  unfold zl9; rw [List.take_zero, yah, ybt (by omega), ycd]
 have h2 : zbe C30.base tf t' (A ++ zes b0 none (zl9 cs 0 cs') :: B) := h2
 rwa [hov] at h2
theorem stI {k' : Int} (h : zbe C30.base tf t (A ++ zes b0 none [.int .i64 k] :: B)) : ∃ t', (∀ q, za0 C30 30 (.ptr b0 0) (.int .i64 k') ⟨q, t⟩ = some (zbj, ⟨q, t'⟩)) /\ zbe C30.base tf t' (A ++ zes b0 none [.int .i64 k'] :: B) := by
 obtain ⟨t', h1, h2⟩ := zbe.setCel (j := 0) (v := .int .i64 k') h zzfs rfl (by show 0 + 1 <= 1; omega) rfl
 exact ⟨t', h1, h2⟩
theorem ag2 {a b : Int} : zt6 [.int .i64 0, .int .i64 0] (.agg [.int .i64 a, .int .i64 b]) = some (cellsOf [.int .i64 a, .int .i64 b]) := zg4 rfl
theorem zzmb (hR : RT T z cf) (hl : cs.length = z.length) (h : zbe C30.base tf t (A ++ L3 b0 b1 b2 cs a b k)) (hQ : Q (.tup [.agg cs, .agg [.int .i64 a, .int .i64 b], .int .i64 k]) t) : wpT C30.base W J (tRe T (.ptr b0 0) (.ptr b1 0) (.ptr b2 0)) t Q := by
 obtain ⟨y, h1, h2, h3, h4⟩ := hR.ty
 unfold tRe; refine zat (ldS h h1 h2 (by omega)) (zat (v := .agg [.int .i64 a, .int .i64 b]) ?_ (zat (v := .int .i64 k) ?_ hQ))
 ·exact ldS (A := A ++ [zes b0 none cs]) (B := [zes b2 none [.int .i64 k]]) (by simpa [L3] using h) z85 rfl rfl
 ·have h' : zbe C30.base tf t ((A ++ [zes b0 none cs, zes b1 none [.int .i64 a, .int .i64 b]]) ++ zes b2 none [.int .i64 k] :: []) := by simpa [L3] using h
  exact h'.cel.load1 zzfs rfl rfl
theorem set0 (hR : RT T z cf) {cs' : List zab} (hl : cs.length = z.length) (hl' : cs'.length = z.length) (hone : zfh zab.one cs' = true) (h : zbe C30.base tf t (A ++ L3 b0 b1 b2 cs a b k)) : ∃ t', (∀ q, za0 C30 T (.ptr b0 0) (.agg cs') ⟨q, t⟩ = some (zbj, ⟨q, t'⟩)) /\ zbe C30.base tf t' (A ++ L3 b0 b1 b2 cs' a b k) := by
 obtain ⟨y, h1, h2, h3, h4⟩ := hR.ty
 exact stS h h1 (by omega) (by omega) hone
theorem set1 {a' b' : Int} (h : zbe C30.base tf t (A ++ L3 b0 b1 b2 cs a b k)) : ∃ t', (∀ q, za0 C30 29 (.ptr b1 0) (.agg [.int .i64 a', .int .i64 b']) ⟨q, t⟩ = some (zbj, ⟨q, t'⟩)) /\ zbe C30.base tf t' (A ++ L3 b0 b1 b2 cs a' b' k) := by
 obtain ⟨t', h1, h2⟩ := stS (A := A ++ [zes b0 none cs]) (B := [zes b2 none [.int .i64 k]]) (cs := [.int .i64 a, .int .i64 b]) (b0 := b1) (cs' := [.int .i64 a', .int .i64 b']) (by simpa [L3] using h) z85 rfl rfl rfl
 exact ⟨t', h1, by simpa [L3] using h2⟩
theorem set2 {k' : Int} (h : zbe C30.base tf t (A ++ L3 b0 b1 b2 cs a b k)) : ∃ t', (∀ q, za0 C30 30 (.ptr b2 0) (.int .i64 k') ⟨q, t⟩ = some (zbj, ⟨q, t'⟩)) /\ zbe C30.base tf t' (A ++ L3 b0 b1 b2 cs a b k') := by
 obtain ⟨t', h1, h2⟩ := stI (A := A ++ [zes b0 none cs, zes b1 none [.int .i64 a, .int .i64 b]]) (B := []) (k' := k') (by simpa [L3] using h)
 exact ⟨t', h1, by simpa [L3] using h2⟩
theorem ld1 (h : zbe C30.base tf t (A ++ L3 b0 b1 b2 cs a b k)) : zao C30 29 ⟨0, t⟩ (.ptr b1 0) = some (.agg [.int .i64 a, .int .i64 b]) :=
 ldS (A := A ++ [zes b0 none cs]) (B := [zes b2 none [.int .i64 k]]) (by simpa [L3] using h) z85 rfl rfl
theorem ld2 (h : zbe C30.base tf t (A ++ L3 b0 b1 b2 cs a b k)) : zao C30 30 ⟨0, t⟩ (.ptr b2 0) = some (.int .i64 k) := by
 have h' : zbe C30.base tf t ((A ++ [zes b0 none cs, zes b1 none [.int .i64 a, .int .i64 b]]) ++ zes b2 none [.int .i64 k] :: []) := by simpa [L3] using h
 exact h'.cel.load1 zzfs rfl rfl
theorem clo_ok (hR : RT T z cf) {x y e : Int} (hl : cs.length = z.length) (h : zbe C30.base tf t (A ++ L3 b0 b1 b2 cs a b k)) (hQ : ∀ t', zbe C30.base tf t' (A ++ L3 b0 b1 b2 z x y e) -> Q (.tup []) t') :
  wpT C30.base W J (tR3 T z (.ptr b0 0) (.ptr b2 0) (.ptr b1 0) (.iface 123 (.agg [.int .i64 x, .int .i64 y, .int .i64 e]))) t Q := by
 unfold tR3; refine zah (v := .bool true) (by kernel_rfl) (zcf (zag rfl ?_))
 obtain ⟨t1, h1, h2⟩ := set0 hR (cs' := z) hl rfl hR.one h
 refine zau fun q _ _ => ⟨_, _, h1 q, ?_⟩
 obtain ⟨t2, h3, h4⟩ := set2 (k' := 120) h2
 refine zau fun q _ _ => ⟨_, _, h3 q, ?_⟩
 refine zah (v := .tup [.agg [.int .i64 x, .int .i64 y, .int .i64 e], .bool true]) (by kernel_rfl) (zah (v := .agg [.int .i64 x, .int .i64 y, .int .i64 e]) rfl (zbq (X := cellsOf [.int .i64 x, .int .i64 y, .int .i64 e]) (zg4 rfl) (zah (v := .bool true) rfl (zcf (zag rfl (zag rfl ?_))))))
 obtain ⟨t3, h5, h6⟩ := set1 (a' := x) (b' := y) h4
 refine zau fun q _ _ => ⟨_, _, h5 q, ?_⟩
 refine zag (by show same 10 (.int .i64 e) (.int .i64 e) = true; simp [same, kEq, zc0]) ?_
 obtain ⟨t4, h7, h8⟩ := set2 (k' := e) h6
 refine zau fun q _ _ => ⟨_, _, h7 q, ?_⟩
 exact hQ _ h8
theorem zzjr {e : Int} : same 10 (.int .i64 e) (.int .i64 e) = true := by simp [same, kEq, zc0]
theorem same_2 {a b : Int} : same 10 (.agg [.int .i64 a, .int .i64 b]) (.agg [.int .i64 a, .int .i64 b]) = true := by simp [same, same.sames, kEq, zc0]
theorem tail13 {α : Type} {rd : Tr zav -> α -> zab -> Prop} {good : Tr zav -> α -> List zab -> Prop} {P : z8a} {r : PR α} {g : Nat} (hR : RT T z cf) (hL : P.L = L3 b0 b1 b2 z 0 0 0) (h : St P tf t 0 0)
  (hQ : match r with
   | .ok x _ => ∀ tf' t' cs, TLe tf tf' -> TLe tf' t' -> good tf' x cs -> Q (.tup [.agg cs, .agg [.int .i64 0, .int .i64 0], .int .i64 0]) t'
   | .er e i => ∀ t', TLe tf t' -> Q (.tup [.agg z, .agg [.int .i64 ((zfo P i).line : Int), .int .i64 ((zfo P i).col : Int)], .int .i64 (e : Int)]) t')
  (hcall : ∀ Q E, Ok P rd 0 tf r Q E -> WqE C30 F zct zuz E g [.ptr P.bp 0] t Q) (hg : Nat.blt g pn = true)
  (hrd : ∀ tf' x v, rd tf' x v -> ∃ cs, v = .agg cs /\ cs.length = z.length /\ zt6 z (.agg cs) = some (cellsOf cs) /\ cf (cellsOf cs) = cs /\ zfh zab.one cs = true /\ good tf' x cs) :
  wpT C30.base (WqE C30 F zct zuz fun v t' => wpT C30.base (Wq C30 F zct) noJ (tR3 T z (.ptr b0 0) (.ptr b2 0) (.ptr b1 0) v) t' fun _ t'' => wpT C30.base (Wq C30 F zct) noJ (tRe T (.ptr b0 0) (.ptr b1 0) (.ptr b2 0)) t'' Q) noJ
   (tR13 T z cf (.func (.func g) [] []) (.ptr b0 0) (.ptr b1 0) (.ptr b2 0) (.ptr P.bp 0)) t Q := by
 unfold tR13; have hf : zkx (.func (.func g) [] []) [.ptr P.bp 0] = some (g, [.ptr P.bp 0]) := by
  unfold zkx; simp only [zab.asFunc, zad, hg, zar]; rfl
 refine zj3 hf (hcall _ _ ?_)
 cases r with
 | er e i =>
  intro tf' t' n' d' hle hst; have ho : zbe C30.base tf' t' ([oPar P n' d'] ++ L3 b0 b1 b2 z 0 0 0) := by rw [<- hL]; exact hst.ob
  refine clo_ok hR rfl ho fun t2 ho2 => ?_
  refine zzmb hR rfl ho2 ?_
  exact hQ t2 (hle.trans ho2.tle)
 | ok x n =>
  intro tf' t' v hle hst hv; obtain ⟨cs, rfl, h1, h2, h3, h4, h5⟩ := hrd _ _ _ hv
  have ho : zbe C30.base tf' t' ([oPar P n 0] ++ L3 b0 b1 b2 z 0 0 0) := by rw [<- hL]; exact hst.ob
  refine zbq h2 (zag rfl ?_)
  rw [h3]; obtain ⟨t1, k1, k2⟩ := set0 hR (cs' := cs) rfl h1 h4 ho
  refine zau fun q _ _ => ⟨_, _, k1 q, ?_⟩
  obtain ⟨t2, k3, k4⟩ := set1 (a' := 0) (b' := 0) k2
  refine zau fun q _ _ => ⟨_, _, k3 q, ?_⟩
  obtain ⟨t3, k5, k6⟩ := set2 (k' := 0) k4
  refine zau fun q _ _ => ⟨_, _, k5 q, ?_⟩
  exact zzmb hR h1 k6 (hQ tf' t3 cs hle k6.tle h5)
theorem zzl6 {p1 : zab} (hR : RT T z cf) (hg : zfc t) (hby : ∀ b ∈ s, b < 256) (hgood : ∀ m, zqw s = .ok m -> s.length < 900000 /\ m.length < 1000000 /\ ∀ x ∈ m, z6f x)
  (hE : ∀ e a b, zqw s = .er e a b -> e ≠ 0 /\ ∀ t', TLe t t' -> Q (.tup [.agg z, .agg [.int .i64 (a : Int), .int .i64 (b : Int)], .int .i64 (e : Int)]) t')
  (hT : ∀ m, zqw s = .ok m -> ∀ tf1 t1 P b0 b1 b2, P.tk = m -> P.el = atL s -> P.ec = atC s -> P.L = L3 b0 b1 b2 z 0 0 0 -> TLe t tf1 -> St P tf1 t1 0 0 -> J 11 [p1, .ptr b0 0, .ptr b1 0, .ptr b2 0, .ptr P.bp 0] t1 Q) :
  wpT C30.base (Wq C30 F zct) J (tRun T z cf s p1) t Q := by
 obtain ⟨y, y1, y2, y3, y4⟩ := hR.ty
 unfold tRun; refine zau fun c0 hc0 hb0 => ?_
 obtain ⟨u0, a1, a2, a3, a4⟩ := zeh (C := C30) y1 hc0
 refine ⟨_, _, a1, ?_⟩
 have o0 : zbe C30.base t t [] := ⟨TLe.refl _, by simp, by simp, by simp⟩
 have o1 := zbe.newCel (A := []) (B := []) o0 hc0 hb0 a2 a3 a4
 refine zau fun c1 hc1 hb1 => ?_
 obtain ⟨u1, a5, a6, a7, a8⟩ := zeh (C := C30) z85 hc1
 refine ⟨_, _, a5, ?_⟩
 have o2 := zbe.newCel (A := [zes c0 none y.zero]) (B := []) o1 hc1 hb1 a6 a7 a8
 refine zau fun c2 hc2 hb2 => ?_
 obtain ⟨u2, a9, a10, a11, a12⟩ := zeh (C := C30) zzfs hc2
 refine ⟨_, _, a9, ?_⟩
 have o3 := zbe.newCel (A := [zes c0 none y.zero, zes c1 none [.int .i64 0, .int .i64 0]]) (B := []) o2 hc2 hb2 a10 a11 a12
 rw [y3] at o3; have o3 : zbe C30.base t u2 (L3 c0 c1 c2 z 0 0 0) := o3
 refine zam ?_
 rw [q22]; refine Wc.objs (R := fun v t' => match zqw s with
   | .ok m => ∃ v', v = .tup [v', .agg [.int .i64 0, .int .i64 0], .int .i64 0] /\ RSl t' 4 (m.map Tok.d) v'
   | .er e a b => v = .tup [.nilslice, .agg [.int .i64 (a : Int), .int .i64 (b : Int)], .int .i64 (e : Int)]) (lex_ok hg hby ?_) o3 fun v tf1 t1 hle ho hv => ?_
 ·cases hx : zqw s with
  | ok m => exact fun t' v k1 k2 => ⟨k1, v, rfl, k2⟩
  | er e a b => exact fun t' k1 => ⟨k1, rfl⟩
 cases hx : zqw s with
 | er e a b =>
  rw [hx] at hv; have hv : v = .tup [.nilslice, .agg [.int .i64 (a : Int), .int .i64 (b : Int)], .int .i64 (e : Int)] := hv
  subst hv; obtain ⟨hne, hQ⟩ := hE e a b hx
  refine zah (v := .nilslice) rfl (zah (v := .agg [.int .i64 (a : Int), .int .i64 (b : Int)]) rfl (zbq ag2 (zah (v := .int .i64 (e : Int)) rfl (zaw ?_))))
  obtain ⟨t2, k1, k2⟩ := set1 (A := []) (a' := (a : Int)) (b' := (b : Int)) ho
  refine zau fun q _ _ => ⟨_, _, k1 q, ?_⟩
  obtain ⟨t3, k3, k4⟩ := set2 (k' := (e : Int)) k2
  refine zau fun q _ _ => ⟨_, _, k3 q, ?_⟩
  refine zat (ld2 k4) (zaw (zag (by rw [zc0]; simp; omega) ?_))
  refine zat (ldS (A := []) k4 y1 y2 y4) (zbq hR.ag (zat (ld1 k4) (zbq ag2 (zat (ld2 k4) (zaw ?_)))))
  rw [hR.cf]; obtain ⟨t4, k5, k6⟩ := set0 hR (cs' := z) rfl rfl hR.one k4
  refine zau fun q _ _ => ⟨_, _, k5 q, ?_⟩
  refine zat (ld1 k6) (zag same_2 (zat (ld2 k6) (zag zzjr ?_)))
  obtain ⟨t5, k7, k8⟩ := set1 (a' := (a : Int)) (b' := (b : Int)) k6
  refine zau fun q _ _ => ⟨_, _, k7 q, ?_⟩
  refine zat (ld2 k8) (zag zzjr ?_)
  obtain ⟨t6, k9, k10⟩ := set2 (k' := (e : Int)) k8
  refine zau fun q _ _ => ⟨_, _, k9 q, ?_⟩
  refine zzmb (W := Wq C30 F zct) (J := J) hR rfl k10 (hQ t6 (hle.trans k10.tle))
 | ok m =>
  rw [hx] at hv; obtain ⟨v', rfl, hv'⟩ := hv
  obtain ⟨g0, g1, g2⟩ := hgood m hx
  refine zah (v := v') rfl (zah (v := .agg [.int .i64 0, .int .i64 0]) rfl (zbq ag2 (zah (v := .int .i64 0) rfl (zaw ?_))))
  obtain ⟨t2, k1, k2⟩ := set1 (A := []) (a' := 0) (b' := 0) ho
  refine zau fun q _ _ => ⟨_, _, k1 q, ?_⟩
  obtain ⟨t3, k3, k4⟩ := set2 (k' := 0) k2
  refine zau fun q _ _ => ⟨_, _, k3 q, ?_⟩
  refine zat (ld2 k4) (zaw (zaz (by simp [zc0]) (zam ?_)))
  rw [q25, ze8, at_pv g0 (ybk _), zaa, List.take_length]
  refine zbq ag2 (zag (by
   obtain ⟨cl, he, _⟩ := hv'
   rcases he with ⟨rfl, _⟩ | ⟨b, off, cap, rfl, _⟩ <;> rfl) ?_)
  refine zau fun c8 hc8 hb8 => ?_
  obtain ⟨u8, m1, m2, m3, m4⟩ := zxx (v := .agg [v', .int .i64 0, .int .i64 0, .int .i64 (atL s : Int), .int .i64 (atC s : Int)]) hc8
  refine ⟨_, _, m1, za3 ?_⟩
  have o8 := zbe.newCel (A := []) (B := L3 c0 c1 c2 z 0 0 0) k4 hc8 hb8 m2 m3 m4
  exact hT m hx tf1 u8 ⟨m, c8, v', atL s, atC s, L3 c0 c1 c2 z 0 0 0⟩ c0 c1 c2 rfl rfl rfl rfl hle ⟨hv', o8, g1, yaw _, g2, hg.mono hle⟩
end
end Go.Proofs
namespace Go.Proofs
open Go Go.Am
theorem zzap {p : Nat -> Bool} {s : List Nat} : ∀ b ∈ zit p s, p b = true := by
 intro b hb; unfold zit at hb; induction s with
 | nil => cases hb
 | cons x s ih =>
  rw [List.takeWhile_cons] at hb; split at hb
  ·rcases ybs.1 hb with rfl | h
   ·assumption
   ·exact ih h
  ·cases hb
theorem zzao {p : Nat -> Bool} {s : List Nat} : ∃ r, s = zit p s ++ r /\ ∀ b r', r = b :: r' -> p b = false := by
 refine ⟨s.dropWhile p, (List.takeWhile_append_dropWhile).symm, fun b r' h => ?_⟩
 have := List.head?_dropWhile_not p s
 rw [h] at this; simpa using this
theorem zk7 {p : Nat -> Bool} {a r : List Nat} (h : ∀ b ∈ a, p b = true) (hr : ∀ b r', r = b :: r' -> p b = false) : zit p (a ++ r) = a := by
 unfold zit; induction a with
 | nil =>
  cases r with
  | nil => rfl
  | cons b r' => rw [yah, List.takeWhile_cons, hr b r' rfl]; rfl
 | cons x a ih =>
  rw [List.cons_append, List.takeWhile_cons, h x yby, yab rfl, ih fun b hb => h b (ybr _ hb)]
theorem z5q {b : Nat} (h : zba b = true) : decide (b ≠ 47) = true := by
 unfold zba at h; simp only [ybb, decide_eq_true_eq] at h ⊢
 omega
theorem z0d (f q : List Nat) : (f ++ q)[f.length]? = q.head? := by
 rw [ybp (ybk _), Nat.sub_self]
 cases q <;> rfl
theorem zv5 (f q : List Nat) : (f ++ q).take f.length = f := by simp
theorem zxn (f q : List Nat) (b : Nat) : (f ++ b :: q).drop (f.length + 1) = q := by
 rw [List.drop_append, ybt (by omega), show f.length + 1 - f.length = 1 from by omega]; rfl
theorem zzmi {s : List Nat} {b : Nat} {r : List Nat} (he : s = b :: r) (hd : zba b = true) (h : zdm s = false) : zws (s.take (zb7 s)) /\ 0 < (s.take (zb7 s)).length := by
 unfold zdm at h; simp only [yal, decide_eq_false_iff_not] at h; obtain ⟨⟨⟨⟨h1, h2⟩, h3⟩, h4⟩, h5⟩ := h
 have hf : zbh s ≠ [] := by
  intro e; unfold zbh zit at e; rw [he, List.takeWhile_cons, hd, yab rfl] at e
  cases e
 obtain ⟨q, hq1, hq2⟩ := zzao (p := zba) (s := s)
 have hq1 : s = zbh s ++ q := hq1
 have hall : ∀ x ∈ zbh s, zba x = true := zzap
 have hpos : 0 < (zbh s).length := List.length_pos_iff.2 hf
 have hgd : s[(zbh s).length]? = q.head? := by
  have := z0d (zbh s) q
  rwa [<- hq1] at this
 by_cases hs : zbk s = []
 ·have hl : zb7 s = (zbh s).length := yab hs
  have ht : s.take (zb7 s) = zbh s := by rw [hl]; have := zv5 (zbh s) q; rwa [<- hq1] at this
  rw [ht]; have hc : zyc (zbh s) = zbh s := by
   have := zk7 (p := fun b => decide (b ≠ 47)) (a := zbh s) (r := []) (fun b hb => z5q (hall b hb)) (fun _ _ e => by cases e)
   rwa [ycd] at this
  refine ⟨⟨by rw [hl] at h1; omega, by rw [hc]; exact hall, by rw [hc]; exact hf, by rw [hc]; exact h3, fun hh => ?_⟩, hpos⟩
  unfold zcm at hh; have := z5q (hall 47 (by simpa using hh))
  simp at this
 ·have hl : zb7 s = (zbh s).length + 1 + (zbk s).length := yaa hs
  have hsl : s[(zbh s).length]? = some 47 := by
   cases Decidable.em (s[(zbh s).length]? = some 47) with
   | inl h => exact h
   | inr h => exact absurd (yaa h) hs
  rw [hgd] at hsl; obtain ⟨u, rfl⟩ : ∃ u, q = 47 :: u := by
   cases q with
   | nil => cases hsl
   | cons x u => rw [List.head?_cons] at hsl; cases hsl; exact ⟨u, rfl⟩
  have hsec : zbk s = zit zba u := by
   unfold zbk; rw [yab (by rw [hgd]; exact hsl)]
   congr 1
   have := zxn (zbh s) u 47
   rwa [<- hq1] at this
  obtain ⟨w, hw1, _⟩ := zzao (p := zba) (s := u)
  rw [<- hsec] at hw1; have hall2 : ∀ x ∈ zbk s, zba x = true := by rw [hsec]; exact zzap
  have ht : s.take (zb7 s) = zbh s ++ 47 :: zbk s := by
   have e : s = (zbh s ++ 47 :: zbk s) ++ w := by rw [ybz, List.cons_append, <- hw1]; exact hq1
   rw [hl]; have := zv5 (zbh s ++ 47 :: zbk s) w
   rw [<- e] at this; rw [ybg, ybn, show (zbh s).length + ((zbk s).length + 1) = (zbh s).length + 1 + (zbk s).length from by omega] at this
   exact this
  rw [ht]; have hc : zyc (zbh s ++ 47 :: zbk s) = zbh s := zk7 (fun b hb => z5q (hall b hb)) (fun b r' e => by cases e; rfl)
  have hcb : z0k (zbh s ++ 47 :: zbk s) = zbk s := by
   unfold z0k; rw [hc]; exact zxn _ _ _
  refine ⟨⟨?_, by rw [hc]; exact hall, by rw [hc]; exact hf, by rw [hc]; exact h3, fun _ => ?_⟩, by rw [ybg]; omega⟩
  ·rw [hl] at h1; simp only [ybg, ybn]; omega
  ·rw [hcb]
   exact ⟨hs, hall2, h4, h5⟩
theorem zzfw {s : List Nat} {k : Nat} {w : List Nat} (h : zc8 s = .tok k w) : 0 < w.length /\ (k = 2 -> zws w) /\ (k = 3 -> z5t w) /\ k ≠ 5 := by
 unfold zc8 at h; split at h
 ·cases h
 ·rename_i b r
  split at h
  ·rename_i hb
   split at h
   ·cases h
   ·cases h
    refine ⟨?_, fun e => by omega, fun e => by omega, by omega⟩
    unfold zit; rw [List.takeWhile_cons, yab (by unfold zcr; rw [hb]; rfl)]
    simp
  ·split at h
   ·rename_i hb
    simp only [ybb] at hb; split at h
    ·cases h
    ·rename_i hd
     cases h; have hl : 10 <= (b :: r).length := by
      have := hb.2
      unfold zdf at this; simp only [ybb, decide_eq_true_eq] at this; exact this.1
     have hlt : ((b :: r).take 10).length = 10 := by rw [yda]; omega
     refine ⟨by omega, fun e => by omega, fun _ => ⟨hlt, ?_, ?_⟩, by omega⟩
     ·have := hb.2
      unfold zdf at this ⊢
      simp only [ybb, decide_eq_true_eq] at this ⊢
      refine ⟨by omega, ?_⟩
      have h2 := this.2
      rw [ycb] at h2 ⊢
      intro i hi; have hi' := List.mem_range.1 hi
      have := h2 i hi
      rw [List.getD_eq_getElem?_getD, List.getElem?_take_of_lt hi', <- List.getD_eq_getElem?_getD]; exact this
     ·have hd : zgn (b :: r) = false := by simpa using hd
      unfold zgn at hd; simp only [yal, decide_eq_false_iff_not] at hd
      cases hx : zzid ((b :: r).take 10) with
      | none => exact absurd hx hd.2
      | some n => exact ⟨n, rfl⟩
   ·split at h
    ·rename_i hb
     split at h
     ·cases h
     ·rename_i hn
      cases h; have hn : zdm (b :: r) = false := by simpa using hn
      obtain ⟨h1, h2⟩ := zzmi rfl hb hn
      exact ⟨h2, fun _ => h1, fun e => by omega, by omega⟩
    ·split at h
     ·cases h
      exact ⟨by simp, fun e => by omega, fun e => by omega, by omega⟩
     ·cases h
theorem bad_ne {s : List Nat} {e : Nat} (h : zc8 s = .bad e) : e ≠ 0 := by
 unfold zc8 at h; repeat' split at h
 all_goals first | (cases h; decide) | cases h
theorem zzds (p : Nat × Nat) : z6f (endT p) := ⟨fun e => (by cases e), fun e => (by cases e)⟩
theorem zzeb {t : Tok} {r : LR} {m : List Tok} (h : r.cons t = .ok m) : ∃ m', r = .ok m' /\ m = t :: m' := by
 cases r with
 | ok l => cases h; exact ⟨l, rfl, rfl⟩
 | er _ _ _ => cases h
theorem z0o {op : Option (Nat × Nat)} {r : LR} {m : List Tok} (h : LR.close op r = .ok m) : ∃ m', r = .ok m' /\ m.length <= m'.length + 1 /\ ∀ x ∈ m, x ∈ m' \/ z6f x := by
 cases op with
 | none => exact ⟨m, h, by omega, fun x hx => .inl hx⟩
 | some p =>
  obtain ⟨m', h1, rfl⟩ := zzeb h
  refine ⟨m', h1, by simp, fun x hx => ?_⟩
  rcases ybs.1 hx with rfl | hx
  ·exact .inr (zzds p)
  ·exact .inl hx
theorem zzhb : ∀ (k : Nat) (s : List Nat) (ln cl : Nat) (op : Option (Nat × Nat)) (m : List Tok), zed k s ln cl op = .ok m -> m.length <= s.length + 1 /\ ∀ x ∈ m, z6f x := by
 intro k; induction k with
 | zero => intro s ln cl op m h; cases h; exact ⟨by simp, by simp⟩
 | succ k ih =>
  intro s ln cl op m h; unfold zed at h; split at h
  ·cases ‹_ + 1 = 0›
  ·obtain ⟨m', h1, h2, h3⟩ := z0o h
   cases h1; exact ⟨h2, fun x hx => (h3 x hx).elim (fun h => by cases h) id⟩
  ·rename_i b r heq
   cases heq; split at h
   ·obtain ⟨m', h1, h2, h3⟩ := z0o h
    obtain ⟨g1, g2⟩ := ih _ _ _ _ _ h1
    exact ⟨by rw [ybn]; omega, fun x hx => (h3 x hx).elim (g2 x) id⟩
   ·split at h
    ·obtain ⟨g1, g2⟩ := ih _ _ _ _ _ h
     exact ⟨by rw [ybn]; omega, g2⟩
    ·split at h
     ·obtain ⟨g1, g2⟩ := ih _ _ _ _ _ h
      refine ⟨Nat.le_trans g1 ?_, g2⟩
      rw [ydj]; omega
     ·split at h
      ·cases h
      ·rename_i kd w ht
       obtain ⟨m', h1, rfl⟩ := zzeb h
       obtain ⟨g1, g2⟩ := ih _ _ _ _ _ h1
       obtain ⟨f1, f2, f3, _⟩ := zzfw ht
       rw [ydj] at g1; refine ⟨by simp only [ybn] at g1 ⊢; omega, fun x hx => ?_⟩
       rcases ybs.1 hx with rfl | hx
       ·exact ⟨f2, f3⟩
       ·exact g2 x hx
theorem zzmt : ∀ (k : Nat) (s : List Nat) (ln cl : Nat) (op : Option (Nat × Nat)) (e a b : Nat), zed k s ln cl op = .er e a b -> e ≠ 0 := by
 have hcons : ∀ (t : Tok) (r : LR) (e a b : Nat), r.cons t = .er e a b -> r = .er e a b := by
  intro t r e a b h
  cases r with
  | ok l => cases h
  | er _ _ _ => cases h; rfl
 have hclose : ∀ (op : Option (Nat × Nat)) (r : LR) (e a b : Nat), LR.close op r = .er e a b -> r = .er e a b := by
  intro op r e a b h
  cases op with
  | none => exact h
  | some p => exact hcons _ _ _ _ _ h
 intro k; induction k with
 | zero => intro s ln cl op e a b h; cases h
 | succ k ih =>
  intro s ln cl op e a b h; unfold zed at h; split at h
  ·cases ‹_ + 1 = 0›
  ·have := hclose _ _ _ _ _ h; cases this
  ·rename_i x r heq
   cases heq; split at h
   ·exact ih _ _ _ _ _ _ _ (hclose _ _ _ _ _ h)
   ·split at h
    ·exact ih _ _ _ _ _ _ _ h
    ·split at h
     ·exact ih _ _ _ _ _ _ _ h
     ·split at h
      ·rename_i ht
       cases h; exact bad_ne ht
      ·exact ih _ _ _ _ _ _ _ (hcons _ _ _ _ _ h)
end Go.Proofs
namespace Go.Proofs
open Go Go.Am
variable [zb1]
theorem t45_eq (s : List Nat) (p1 : zab) : t45 s p1 = tRun 47 zV cV s p1 := rfl
theorem z9g (v1 v4 v5 v6 v8 : zab) : z9h v1 v4 v5 v6 v8 = tR13 47 zV cV v1 v4 v5 v6 v8 := rfl
theorem zzf5 (v0 v1 v2 v3 : zab) : zzf6 v0 v1 v2 v3 = tR3 47 zV v0 v1 v2 v3 := rfl
theorem zzf7 (v4 v5 v6 : zab) : zzf8 v4 v5 v6 = tRe 47 v4 v5 v6 := rfl
theorem rt47 : RT 47 zV cV := ⟨⟨_, ty47, rfl, rfl, rfl⟩, rfl, zg4 rfl, rfl⟩
def tokE (m : List Tok) (s : List Nat) (i : Nat) : Tok := (m[i]?).getD ⟨0, [], atL s, atC s⟩
theorem zzmu {s : List Nat} {m : List Tok} (h : zqw s = .ok m) : s.length < 900000 /\ m.length < 1000000 /\ ∀ x ∈ m, z6f x := by
 unfold zqw at h; split at h
 ·cases h
 ·obtain ⟨h1, h2⟩ := zzhb _ _ _ _ _ _ h
  exact ⟨by omega, by omega, h2⟩
theorem zzhd {s : List Nat} {e a b : Nat} (h : zqw s = .er e a b) : e ≠ 0 := by
 unfold zqw at h; split at h
 ·cases h; decide
 ·exact zzmt _ _ _ _ _ _ _ _ h
inductive RP (α : Type) where
 | ok (x : α)
 | er (e l c : Nat)
def z4f {α : Type} (top : List Tok -> PR α) (s : List Nat) : RP α :=
 match zqw s with
 | .er e a b => .er e a b
 | .ok m => match top m with
  | .ok x _ => .ok x
  | .er e i => .er e (tokE m s i).line (tokE m s i).col
theorem z1y {α : Type} {top : List Tok -> PR α} {s : List Nat} {m : List Tok} (h : zqw s = .ok m) : z4f top s = match top m with | .ok x _ => .ok x | .er e i => .er e (tokE m s i).line (tokE m s i).col := by unfold z4f; rw [h]
theorem z4e {α : Type} {top : List Tok -> PR α} {s : List Nat} {e a b : Nat} (h : zqw s = .er e a b) : z4f top s = .er e a b := by unfold z4f; rw [h]
section
variable {t : Tr zav} {Q : zbo} {s : List Nat}
theorem run45 (hg : zfc t) (hby : ∀ b ∈ s, b < 256) (hQ : match z4f zya s with
  | .ok x => ∀ t' cs, TLe t t' -> RD t' x.d cs -> Q (.tup [.agg cs, .agg [.int .i64 0, .int .i64 0], .int .i64 0]) t'
  | .er e a b => ∀ t', TLe t t' -> Q (.tup [.agg zV, .agg [.int .i64 (a : Int), .int .i64 (b : Int)], .int .i64 (e : Int)]) t') : Wc C30 F 45 [.str s, .func (.func 46) [] []] t Q := by
 refine w45 _ _ ?_
 rw [t45_eq]; refine zzl6 rt47 hg hby (fun m hm => zzmu hm) (fun e a b h => ⟨zzhd h, ?_⟩) (fun m hm tf1 t1 P b0 b1 b2 e1 e2 e3 e4 hle hst => ⟨rfl, tl45 _ _ _ _ _ ?_⟩)
 ·rw [z4e h] at hQ; exact hQ
 ·rw [z9g]
  simp only [zzf5, zzf7]; refine tail13 (rd := rdXV) (good := fun tf' x cs => RD tf' x.d cs) (r := zya P.tk) rt47 e4 hst ?_ (fun Q E hk => by rw [pE 46]; exact zzlp hst hk) (by kernel_rfl) (fun tf' x v ⟨cs, h1, h2⟩ => ⟨cs, h1, by obtain ⟨a, b, rfl, _⟩ := znm h2; rfl, agV h2, zzio h2, by obtain ⟨a, b, rfl, _⟩ := znm h2; exact h2.all, h2⟩)
  rw [z1y hm] at hQ; rw [e1]
  cases hr : zya m with
  | ok x n =>
   rw [hr] at hQ; exact fun tf' t' cs k1 k2 k3 => hQ t' cs (hle.trans (k1.trans k2)) (k3.mono k2)
  | er e i =>
   rw [hr] at hQ; have ht : zfo P i = tokE m s i := by unfold zfo tokE; rw [e1, e2, e3]
   intro t' k1; rw [ht]; exact hQ t' (hle.trans k1)
theorem zzli (hg : zfc t) (hby : ∀ b ∈ s, b < 256) (hQ : match z4f zya s with
  | .ok x => ∀ t' cs, TLe t t' -> RD t' x.d cs -> Q (.tup [.agg cs, .agg [.int .i64 0, .int .i64 0], .int .i64 0]) t'
  | .er e a b => ∀ t', TLe t t' -> Q (.tup [.agg zV, .agg [.int .i64 (a : Int), .int .i64 (b : Int)], .int .i64 (e : Int)]) t') : Wc C30 F 18 [.str s] t Q := by
 refine w18 ?_
 unfold t18; refine zam ?_
 rw [q45]; refine run45 hg hby ?_
 cases hr : z4f zya s with
 | ok x =>
  rw [hr] at hQ; intro t' cs k1 k2; refine zah (v := .agg cs) rfl (zbq (agV k2) (zah (v := .agg [.int .i64 0, .int .i64 0]) rfl (zbq ag2 (zah (v := .int .i64 0) rfl (zaw ?_)))))
  show wpT _ _ _ (.ite (zfh zab.one (cV (cellsOf cs))) (.ite true (.ret (.tup [.agg (cV (cellsOf cs)), _, _])) .fail) .fail) _ _
  rw [zzio k2]; refine zag (by obtain ⟨a, b, rfl, _⟩ := znm k2; exact k2.all) (zag rfl (hQ t' cs k1 k2))
 | er e a b =>
  rw [hr] at hQ; intro t' k1; exact zah (v := .agg zV) rfl (zbq rt47.ag (zah (v := .agg [.int .i64 (a : Int), .int .i64 (b : Int)]) rfl (zbq ag2 (zah (v := .int .i64 (e : Int)) rfl (zaw (zag rfl (zag rfl (hQ t' k1))))))))
end
end Go.Proofs
namespace Go.Proofs
open Go Go.Am
section
variable {k ln cl : Nat} {op : Option (Nat × Nat)} {r : List Nat}
theorem zn9 : zed (k + 1) (32 :: r) ln cl op = zed k r ln (cl + 1) op := by
 rw [zed, yaa (by decide), yab (.inl rfl)]
theorem zzc7 {b : Nat} {kd : Nat} {w : List Nat} (h1 : b ≠ 10) (h2 : b ≠ 32) (h3 : b ≠ 9) (h4 : b ≠ 35) (ht : zc8 (b :: r) = .tok kd w) :
  zed (k + 1) (b :: r) ln cl op = LR.cons ⟨kd, w, ln, cl⟩ (zed k ((b :: r).drop w.length) ln (cl + w.length) (some (ln, cl + w.length))) := by
 rw [zed, yaa h1, yaa (by omega), yaa h4, ht]
theorem go_bad {b e : Nat} (h1 : b ≠ 10) (h2 : b ≠ 32) (h3 : b ≠ 9) (h4 : b ≠ 35) (ht : zc8 (b :: r) = .bad e) : zed (k + 1) (b :: r) ln cl op = .er e ln cl := by
 rw [zed, yaa h1, yaa (by omega), yaa h4, ht]
theorem let_ne {b : Nat} (h : zia b = true) : b ≠ 10 /\ b ≠ 32 /\ b ≠ 9 /\ b ≠ 35 /\ b ≠ 45 /\ b ≠ 47 /\ zba b = false /\ b ≠ 0 := by
 unfold zia at h; unfold zba; simp only [ycq, ybb, decide_eq_true_eq] at h; refine ⟨by omega, by omega, by omega, by omega, by omega, by omega, ?_, by omega⟩
 simp only [Bool.and_eq_false_iff, decide_eq_false_iff_not]; omega
theorem zxq {b : Nat} (h : zba b = true) : b ≠ 10 /\ b ≠ 32 /\ b ≠ 9 /\ b ≠ 35 /\ b ≠ 45 /\ b ≠ 47 /\ zia b = false := by
 unfold zba at h; unfold zia; simp only [ybb, decide_eq_true_eq] at h; refine ⟨by omega, by omega, by omega, by omega, by omega, by omega, ?_⟩
 simp only [yal, Bool.and_eq_false_iff, decide_eq_false_iff_not]; omega
theorem zxo (a b : List Nat) : (a ++ b).drop a.length = b := by simp
theorem zsi {x : Nat} {w : List Nat} (hx : zia x = true) (hw : ∀ b ∈ x :: w, zcr b = true) (hl : (x :: w).length <= 24) (hr : ∀ b r', r = b :: r' -> zcr b = false) :
  zed (k + 1) (x :: (w ++ r)) ln cl op = LR.cons ⟨1, x :: w, ln, cl⟩ (zed k r ln (cl + (x :: w).length) (some (ln, cl + (x :: w).length))) := by
 obtain ⟨h1, h2, h3, h4, _⟩ := let_ne hx
 have hrun : zit zcr (x :: (w ++ r)) = x :: w := zk7 (a := x :: w) hw hr
 have ht : zc8 (x :: (w ++ r)) = .tok 1 (x :: w) := by
  unfold zc8; simp only [hx, if_true, hrun]; rw [yaa (by omega)]
 rw [zzc7 h1 h2 h3 h4 ht, <- List.cons_append, zxo]
theorem zzbp {s : List Nat} {i : Nat} (hi : i < 10) (h : zgb i (s.getD i 0) = false) : zdf s = false := by
 cases hd : zdf s with
 | false => rfl
 | true =>
  unfold zdf at hd; simp only [ybb] at hd; rw [ycb.1 hd.2 i (List.mem_range.2 hi)] at h
  cases h
theorem zzbr {s : List Nat} (h : ∀ b ∈ s, b ≠ 45) : zdf s = false := by
 refine zzbp (i := 4) (by omega) ?_
 unfold zgb; rw [yab (.inl rfl), decide_eq_false_iff_not, List.getD_eq_getElem?_getD]
 cases hx : s[4]? with
 | none => simp
 | some b => exact h b (ycv hx)
theorem z5h {ds : List Nat} (h0 : ds ≠ []) (h : ∀ b ∈ ds, zba b = true) : ∃ x r', ds = x :: r' /\ zba x = true := by
 cases ds with
 | nil => exact absurd rfl h0
 | cons x r' => exact ⟨x, r', rfl, h x yby⟩
theorem go_num {ds : List Nat} (h0 : ds ≠ []) (hd : ∀ b ∈ ds, zba b = true) (hp : zd8 ds = false) (hl : ds.length <= 200) (hdt : zdf (ds ++ r) = false) (hr : ∀ b r', r = b :: r' -> zcr b = false /\ zba b = false /\ b ≠ 47) :
  zed (k + 1) (ds ++ r) ln cl op = LR.cons ⟨2, ds, ln, cl⟩ (zed k r ln (cl + ds.length) (some (ln, cl + ds.length))) := by
 obtain ⟨x, r', rfl, hx⟩ := z5h h0 hd
 obtain ⟨h1, h2, h3, h4, _, _, h7⟩ := zxq hx
 have hf : zbh (x :: r' ++ r) = x :: r' := zk7 hd fun b r2 e => (hr b r2 e).2.1
 have hs : zbk (x :: r' ++ r) = [] := by
  unfold zbk; rw [hf, z0d, yaa]; intro e
  cases r with
  | nil => cases e
  | cons b r2 => cases e; exact (hr 47 r2 rfl).2.2 rfl
 have hn : zb7 (x :: r' ++ r) = (x :: r').length := by unfold zb7; rw [hs, hf, yab rfl]
 have hfo : zdn (x :: r' ++ r) (x :: r').length = false := by
  unfold zdn; rw [z0d]
  cases r with
  | nil => rfl
  | cons b r2 => exact (hr b r2 rfl).1
 have hb : zdm (x :: r' ++ r) = false := by
  unfold zdm; rw [hn, hf, hs, hfo, hp, decide_eq_false (by omega)]; rfl
 have ht : zc8 (x :: (r' ++ r)) = .tok 2 (x :: r') := by
  have : zc8 (x :: r' ++ r) = .tok 2 (x :: r') := by
   unfold zc8; simp only [List.cons_append]; rw [h7, hx, show zdf (x :: (r' ++ r)) = false from hdt, show zdm (x :: (r' ++ r)) = false from hb]
   simp only [ybq, if_false, if_true, yay]; rw [show zb7 (x :: (r' ++ r)) = (x :: r').length from hn, <- List.cons_append, zv5]
  exact this
 rw [List.cons_append, zzc7 h1 h2 h3 h4 ht, <- List.cons_append, zxo]
theorem z7d {ds es : List Nat} (h0 : ds ≠ []) (hd : ∀ b ∈ ds, zba b = true) (h0' : es ≠ []) (hd' : ∀ b ∈ es, zba b = true) (hr : ∀ b r', r = b :: r' -> zba b = false) :
  zbh (ds ++ 47 :: (es ++ r)) = ds /\ zbk (ds ++ 47 :: (es ++ r)) = es /\ zb7 (ds ++ 47 :: (es ++ r)) = (ds ++ 47 :: es).length := by
 have hf : zbh (ds ++ 47 :: (es ++ r)) = ds := zk7 hd fun b r2 e => by cases e; rfl
 have hs : zbk (ds ++ 47 :: (es ++ r)) = es := by
  unfold zbk; rw [hf, z0d, yab (show (47 :: (es ++ r)).head? = some 47 from rfl), zxn]
  exact zk7 hd' hr
 refine ⟨hf, hs, ?_⟩
 unfold zb7; rw [hs, hf, yaa h0']; simp only [ybg, ybn]; omega
theorem zznh {ds es : List Nat} (h0 : ds ≠ []) (hd : ∀ b ∈ ds, zba b = true) (hp : zd8 ds = false) (h0' : es ≠ []) (hd' : ∀ b ∈ es, zba b = true) (hp' : zd8 es = false) (hl : ds.length + es.length < 200) (hdt : zdf (ds ++ 47 :: (es ++ r)) = false) (hr : ∀ b r', r = b :: r' -> zcr b = false /\ zba b = false) :
  zed (k + 1) (ds ++ 47 :: (es ++ r)) ln cl op = if es = [48] then .er 112 ln cl else LR.cons ⟨2, ds ++ 47 :: es, ln, cl⟩ (zed k r ln (cl + (ds ++ 47 :: es).length) (some (ln, cl + (ds ++ 47 :: es).length))) := by
 obtain ⟨hf, hs, hn⟩ := z7d h0 hd h0' hd' fun b r' e => (hr b r' e).2
 have e : ds ++ 47 :: (es ++ r) = (ds ++ 47 :: es) ++ r := by rw [ybz]; rfl
 have hfo : zdn (ds ++ 47 :: (es ++ r)) (ds ++ 47 :: es).length = false := by
  unfold zdn; rw [e, z0d]
  cases r with
  | nil => rfl
  | cons b r2 => exact (hr b r2 rfl).1
 have hb : zdm (ds ++ 47 :: (es ++ r)) = decide (es = [48]) := by
  unfold zdm; rw [hn, hf, hs, hfo, hp, hp', decide_eq_false (by simp only [ybg, ybn]; omega)]; rfl
 obtain ⟨x, r', rfl, hx⟩ := z5h h0 hd
 obtain ⟨h1, h2, h3, h4, _, _, h7⟩ := zxq hx
 split
 ·rename_i he
  have ht : zc8 (x :: (r' ++ 47 :: (es ++ r))) = .bad 112 := by
   unfold zc8; simp only []; rw [h7, hx, show zdf (x :: (r' ++ 47 :: (es ++ r))) = false from hdt, show zdm (x :: (r' ++ 47 :: (es ++ r))) = decide (es = [48]) from hb, decide_eq_true he]
   rfl
  rw [List.cons_append, go_bad h1 h2 h3 h4 ht]
 ·rename_i he
  have ht : zc8 (x :: (r' ++ 47 :: (es ++ r))) = .tok 2 (x :: r' ++ 47 :: es) := by
   unfold zc8; simp only []; rw [h7, hx, show zdf (x :: (r' ++ 47 :: (es ++ r))) = false from hdt, show zdm (x :: (r' ++ 47 :: (es ++ r))) = decide (es = [48]) from hb, decide_eq_false he]
   simp only [ybq, if_false, if_true, yay]; rw [show zb7 (x :: (r' ++ 47 :: (es ++ r))) = (x :: r' ++ 47 :: es).length from hn, show x :: (r' ++ 47 :: (es ++ r)) = (x :: r' ++ 47 :: es) ++ r from e, zv5]
  rw [List.cons_append, zzc7 h1 h2 h3 h4 ht, show x :: (r' ++ 47 :: (es ++ r)) = (x :: r' ++ 47 :: es) ++ r from e, zxo]
end
def zdp (n : Nat) : List Nat := if n < 10 then [48 + n] else zdp (n / 10) ++ [48 + n % 10]
decreasing_by omega
def zzfh (n : Nat) : List Nat := if n = 0 then [] else zdp n
theorem z3d (n : Nat) : zdp n = zzfh (n / 10) ++ [48 + n % 10] := by
 rw [zdp]; unfold zzfh; split
 ·rename_i h
  rw [yab (by omega), Nat.mod_eq_of_lt h]; rfl
 ·rename_i h
  rw [yaa (by omega)]
theorem zi2 : ∀ (k n : Nat), n < 10 ^ (k + 1) -> (zdp n).length <= k + 1
 | 0, n, h => by rw [zdp, yab (by omega)]; simp
 | k + 1, n, h => by
  rw [zdp]; split
  ·simp
  ·have := zi2 k (n / 10) (by rw [yag] at h; omega)
   simp only [ybg, ybn, ybx]; omega
theorem zm9 (n : Nat) : zdp n ≠ [] := by rw [zdp]; split <;> simp
theorem zzkv {n : Nat} (h : n < 10) : zba (48 + n) = true := by unfold zba; simp; omega
theorem zsv : ∀ (k n : Nat), n <= k -> (∀ b ∈ zdp n, zba b = true) /\ (0 < n -> (zdp n).head? ≠ some 48) /\ ze6 (zdp n) = n := by
 intro k; induction k with
 | zero =>
  intro n h; have : n = 0 := by omega
  subst this; rw [zdp, yab (by omega)]
  exact ⟨fun b hb => by rw [ydd] at hb; subst hb; rfl, fun h => by omega, rfl⟩
 | succ k ih =>
  intro n h; rw [zdp]; split
  ·rename_i hn
   refine ⟨fun b hb => by rw [ydd] at hb; subst hb; exact zzkv hn, fun h e => ?_, ?_⟩
   ·rw [List.head?_cons] at e; injection e with e; omega
   ·show 0 * 10 + (48 + n - 48) = n
    omega
  ·rename_i hn
   obtain ⟨h1, h2, h3⟩ := ih (n / 10) (by omega)
   refine ⟨fun b hb => ?_, fun _ => ?_, ?_⟩
   ·rcases yaf.1 hb with hb | hb
    ·exact h1 b hb
    ·rw [ydd] at hb; subst hb; exact zzkv (ycy _ (by omega))
   ·have := h2 (by omega)
    cases hx : zdp (n / 10) with
    | nil => exact absurd hx (zm9 _)
    | cons a l => rw [hx] at this; simpa using this
   ·rw [zoi, h3]; omega
theorem zkk (n : Nat) : ∀ b ∈ zdp n, zba b = true := (zsv n n (ybk _)).1
theorem zoj (n : Nat) : ze6 (zdp n) = n := (zsv n n (ybk _)).2.2
theorem zxs (n : Nat) : zd8 (zdp n) = false := by
 unfold zd8; by_cases h : n = 0
 ·subst h; rw [zdp, yab (by omega)]; rfl
 ·rw [decide_eq_false (p := (zdp n).head? = some 48) ((zsv n n (ybk _)).2.1 (by omega)), yay]
theorem z0i {n : Nat} : zdp n = [48] ↔ n = 0 := by
 constructor
 ·intro h
  have := zoj n
  rw [h] at this; exact this.symm
 ·intro h; subst h; rw [zdp, yab (by omega)]
theorem z7q (n : Nat) : zcm (zdp n) = false := by
 unfold zcm
 cases hx : (zdp n).contains 47 with
 | false => rfl
 | true => have := (zxq (zkk n 47 (by simpa using hx))).2.2.2.2.2.1; exact absurd rfl this
theorem zzif {ds es : List Nat} (hd : ∀ b ∈ ds, zba b = true) : zyc (ds ++ 47 :: es) = ds /\ z0k (ds ++ 47 :: es) = es /\ zcm (ds ++ 47 :: es) = true := by
 have hc : zyc (ds ++ 47 :: es) = ds := zk7 (fun b hb => z5q (hd b hb)) (fun b r' e => by cases e; rfl)
 refine ⟨hc, ?_, ?_⟩
 ·unfold z0k
  rw [hc]; exact zxn _ _ _
 ·unfold zcm
  simp
end Go.Proofs
namespace Go.Proofs
open Go Go.Am
variable [zb1]
variable {t : Tr zav}
theorem zzmr {x n : Nat} (hx : x < 256) (hn : t.get n = none) : ∃ H1, za8 C30 95 1 [(0, .int .u8 (x : Int))] ⟨n, t⟩ = some (.slice n 0 1 1, H1) /\ znd C30 95 9 ⟨0, H1.t⟩ (.slice n 0 1 1) = some (.str [x]) /\ TLe t H1.t := by
 obtain ⟨H1, c1, c2, c3⟩ := zzb2 (k := .u8) ty95 rfl ty5 rfl rfl x trivial hn
 exact ⟨H1, c1, zzii ty95 ty9 rfl rfl rfl ty5 rfl (c2.all (cap := 1) (ybk _)) (fun y hy => by simp at hy; omega), c3⟩
theorem z5p {n : Nat} {l : List Nat} (hn : n < 4294967296) {Q : zbo} (h : ∀ H1, TLe t H1 -> jp 19 2 [.int .u32 ((n / 10 : Nat) : Int), .str ((48 + n % 10) :: l)] H1 Q) (hl : l.length < 1000) :
  (∀ b, t.get b = none -> C30.base <= b -> ∃ v H, za8 C30 95 1 [(0, (uY (zal .u8 (zal .u32 (48 + (Int.tmod (n : Int) 10))))))] ⟨b, t⟩ = some (v, H) /\ znd C30 95 9 ⟨0, H.t⟩ v = some (.str [48 + n % 10]) /\ TLe t H.t) /\ zal .u32 (Int.tdiv (n : Int) 10) = ((n / 10 : Nat) : Int) := by
 refine ⟨fun b hb _ => ?_, ?_⟩
 ·have e : (zal .u8 (zal .u32 (48 + (Int.tmod (n : Int) 10)))) = ((48 + n % 10 : Nat) : Int) := by
   have : Int.tmod (n : Int) 10 = ((n % 10 : Nat) : Int) := by rw [Int.tmod_eq_emod_of_nonneg (by omega)]; rfl
   rw [this, zen (by omega) (by omega), zvu (by omega) (by omega)]; omega
  rw [e]; obtain ⟨H1, h1, h2, h3⟩ := zzmr (x := 48 + n % 10) (by omega) hb
  exact ⟨_, H1, h1, h2, h3⟩
 ·have : Int.tdiv (n : Int) 10 = ((n / 10 : Nat) : Int) := by rw [Int.tdiv_eq_ediv_of_nonneg (by omega)]; rfl
  rw [this, zen (by omega) (by omega)]
theorem z5s : ∀ (k n : Nat) (l : List Nat) (t : Tr zav), n <= k -> n < 4294967296 -> l.length + (zzfh n).length < 1000 -> jp 19 2 [.int .u32 (n : Int), .str l] t (fun v t' => v = .str (zzfh n ++ l) /\ TLe t t') := by
 intro k; induction k with
 | zero =>
  intro n l t hk hn hl; have : n = 0 := by omega
  subst this; refine zzm0 ?_
  unfold zzf9; exact zaz (by simp [zbu]) ⟨rfl, TLe.refl _⟩
 | succ k ih =>
  intro n l t hk hn hl; by_cases h0 : n = 0
  ·subst h0
   refine zzm0 ?_
   unfold zzf9; exact zaz (by simp [zbu]) ⟨rfl, TLe.refl _⟩
  have hd : zzfh n = zzfh (n / 10) ++ [48 + n % 10] := by
   have := z3d n
   unfold zzfh at this ⊢
   rw [yaa h0]; exact this
  rw [hd, ybg, ybn, ybx] at hl; refine zzm0 ?_
  unfold zzf9 uS; refine zag (by rw [zbu]; simp; omega) ?_
  have hs := z5p (t := t) (n := n) (l := l) hn (Q := fun v t' => v = .str (zzfh n ++ l) /\ TLe t t') (fun H1 hle => by
   refine Jq.mono (ih (n / 10) _ H1 (by omega) (by omega) (by simp only [ybn]; omega)) fun v t' ⟨h1, h2⟩ => ⟨?_, hle.trans h2⟩
   rw [h1, hd, ybz]; rfl) (by omega)
  refine zau fun b hb hbb => ?_
  obtain ⟨v, H, h1, h2, h3⟩ := hs.1 b hb hbb
  refine ⟨v, H, h1, zat h2 (zcc (zah (zj6 (by simp; omega)) (zcc (za3 ?_))))⟩
  rw [hs.2]; refine Jq.mono (ih (n / 10) ([48 + n % 10] ++ l) H.t (by omega) (by omega) (by simp only [ybg, ybn, ybx]; omega)) fun v t' ⟨g1, g2⟩ => ⟨?_, h3.trans g2⟩
  rw [g1, hd, ybz]
theorem zzd3 {n : Nat} (hn : n < 4294967296) : pvC C30 F 19 [.int .u32 (n : Int)] t = some (.str (zdp n)) := by
 refine zzh (w19 ?_)
 have hlen : (zzfh (n / 10)).length < 900 := by
  unfold zzfh; split
  ·simp
  ·have := zi2 9 (n / 10) (by omega); omega
 unfold t19 uS; have hs := z5p (t := t) (n := n) (l := []) hn (Q := fun v t' => v = .str (zdp n) /\ TLe t t') (fun H1 hle => by
  refine Jq.mono (z5s (n / 10) (n / 10) _ H1 (ybk _) (by omega) (by simp only [ybn, ybx]; omega)) fun v t' ⟨h1, h2⟩ => ⟨?_, hle.trans h2⟩
  rw [h1, z3d n]) (by simp)
 refine zau fun b hb hbb => ?_
 obtain ⟨v, H, h1, h2, h3⟩ := hs.1 b hb hbb
 refine ⟨v, H, h1, zat h2 (zcc (za3 ?_))⟩
 rw [hs.2]; refine Jq.mono (z5s (n / 10) (n / 10) [48 + n % 10] H.t (ybk _) (by omega) (by simp only [ybn, ybx]; omega)) fun v t' ⟨g1, g2⟩ => ⟨?_, h3.trans g2⟩
 rw [g1, z3d n]
theorem zzhx : ∀ (k a b : Nat), b <= k -> a < 4611686018427387904 -> b < 4611686018427387904 -> jp 21 2 [.int .i64 (a : Int), .int .i64 (b : Int)] t (fun v t' => v = .int .i64 ((Nat.gcd a b : Nat) : Int) /\ t' = t) := by
 intro k; induction k with
 | zero =>
  intro a b hk ha hb; have : b = 0 := by omega
  subst this; refine j21_2 ?_
  unfold zzl3; exact zaz (by simp [zbu]) ⟨by rw [Nat.gcd_zero_right], rfl⟩
 | succ k ih =>
  intro a b hk ha hb; refine j21_2 ?_
  unfold zzl3 uI; by_cases h0 : b = 0
  ·subst h0
   exact zaz (by simp [zbu]) ⟨by rw [Nat.gcd_zero_right], rfl⟩
  ·have hlt := ycy a (Nat.pos_of_ne_zero h0)
   refine zag (by rw [zbu]; simp; omega) (zah (zn5 (by omega)) (zaw (za3 ?_)))
   refine Jq.mono (ih b (a % b) (by omega) hb (by omega)) fun v t' ⟨h1, h2⟩ => ⟨?_, h2⟩
   rw [h1, Nat.gcd_comm a b, Nat.gcd_rec b a, Nat.gcd_comm]
theorem zzhy {a b : Nat} (ha : a < 4611686018427387904) (hb : b < 4611686018427387904) : pvC C30 F 21 [.int .i64 (a : Int), .int .i64 (b : Int)] t = some (.int .i64 ((Nat.gcd a b : Nat) : Int)) :=
 zbg.2 (w21 (za3 (zzhx b a b (ybk _) ha hb)))
end Go.Proofs
namespace Go.Proofs
open Go Go.Am
variable [zb1]
variable {t : Tr zav}
def valL : List Nat -> Nat
 | [] => 0
 | a :: l => valL l * 65536 + a
theorem zzms {l : List Nat} {v : zab} (hr : RSl t 1 (zf7 l) v) {i a : Nat} (h : l[i]? = some a) : ∃ p, zai C30 41 v (.int .i64 (i : Int)) = some p /\ zao C30 79 ⟨0, t⟩ p = some (.int .u16 (a : Int)) := by
 obtain ⟨b, o, cs, h1, h2, _, _, h3⟩ := zzjp.at (fun _ => rfl) hr (i := i) (d := .int .u16 (a : Int)) (by unfold zf7; rw [ybu, h]; rfl)
 have e : cs = [.int .u16 (a : Int)] := zkv.1 h3
 subst e; exact ⟨_, h1, h2⟩
theorem zzgh {l : List Nat} {v : zab} (hr : RSl t 1 (zf7 l) v) (hl : l.length <= 2) (hb : ∀ x ∈ l, x < 65536) : pvC C30 F 20 [v] t = some (.int .i64 ((valL l : Nat) : Int)) := by
 have hlen : zb6 v = some (.int .i64 (l.length : Int)) := by
  have := hr.len
  unfold zf7 at this; rwa [ybf] at this
 have fin : ∀ n : Nat, jp 20 2 [v, .int .i64 (n : Int), .int .i64 (-1)] t (fun v' t' => v' = .int .i64 (n : Int) /\ t' = t) := by
  intro n; refine j20_2 ?_
  unfold zzl4; exact zaz (by decide) ⟨rfl, rfl⟩
 have step : ∀ (n i a : Nat) (R : zbo), l[i]? = some a -> n < 65536 -> a < 65536 -> i < 2 -> jp 20 2 [v, .int .i64 ((n * 65536 + a : Nat) : Int), .int .i64 ((i : Int) - 1)] t R -> jp 20 2 [v, .int .i64 (n : Int), .int .i64 (i : Int)] t R := by
  intro n i a R hi hn ha hi2 hj; obtain ⟨p, h1, h2⟩ := zzms hr hi
  refine j20_2 ?_
  unfold zzl4 uH; refine zag (by rw [zmb]; simp) (zah h1 (zat h2 (zaw (za3 ?_))))
  have e1 : uW (uW ((n : Int) * 65536) + uW (a : Int)) = ((n * 65536 + a : Nat) : Int) := by
   unfold uW; rw [zan (n := (n : Int) * 65536) (by omega) (by omega), zan (n := (a : Int)) (by omega) (by omega), zan (by omega) (by omega)]; omega
  have e2 : uW ((i : Int) - 1) = (i : Int) - 1 := zan (by omega) (by omega)
  rw [e1, e2]; exact hj
 refine zbg.2 (w20 ?_)
 unfold t20 uI; refine zah hlen (zaw (zaz (by rw [zbu]; simp; omega) (zah hlen (zaw (za3 ?_)))))
 match l, hl, hb with
 | [], _, _ => exact fin 0
 | [a], _, hb =>
  refine step 0 0 a _ rfl (by omega) (hb a (by simp)) (by omega) ?_
  have := fin (0 * 65536 + a)
  simpa [valL] using this
 | [a, b], _, hb =>
  refine step 0 1 b _ rfl (by omega) (hb b (by simp)) (by omega) (step (0 * 65536 + b) 0 a _ rfl (by have := hb b (by simp); omega) (hb a (by simp)) (by omega) ?_)
  have := fin ((0 * 65536 + b) * 65536 + a)
  simpa [valL] using this
theorem zzfq : ∀ (k m : Nat), m <= k -> valL (l16 m) = m := by
 intro k; induction k with
 | zero =>
  intro m h; have : m = 0 := by omega
  subst this; rw [l16]; rfl
 | succ k ih =>
  intro m h; rw [l16]; split
  ·rename_i e; rw [e]; rfl
  ·show valL (l16 (m / 65536)) * 65536 + m % 65536 = m
   rw [ih _ (by omega)]; omega
theorem zzmz {m : Nat} (h : m < 4294967296) : (l16 m).length <= 2 := by
 rw [l16]; split
 ·simp
 ·rw [l16]
  split
  ·simp
  ·rw [l16, yab (by omega)]; simp
theorem zzaf {m : Nat} {v : zab} (h : m < 4294967296) (hr : RSl t 1 (zf7 (l16 m)) v) : pvC C30 F 20 [v] t = some (.int .i64 (m : Int)) := by
 rw [zzgh hr (zzmz h) (fun x hx => zei m x hx), zzfq m m (ybk _)]
end Go.Proofs
namespace Go.Proofs
open Go Go.Am
variable [zb1]
def sgT (m : Bool) : List Nat := if m then [109, 105, 110, 117, 115, 32] else []
def unT (m : Bool) : List Nat := if m then zov else z52
theorem unT_eq (m : Bool) : ∃ x w, unT m = x :: w /\ zia x = true /\ (∀ b ∈ x :: w, zcr b = true) /\ (x :: w).length <= 24 /\ 4 <= (x :: w).length /\ ∀ b ∈ x :: w, b ≠ 45 := by
 cases m with
 | true => exact ⟨109, [111, 110, 116, 104, 115], rfl, rfl, by decide, by decide, by decide, by decide⟩
 | false => exact ⟨100, [97, 121, 115], rfl, rfl, by decide, by decide, by decide, by decide⟩
theorem zon {r : List Nat} : ∀ b r', (32 :: r : List Nat) = b :: r' -> zcr b = false /\ zba b = false /\ b ≠ 47 := fun b r' e => by cases e; exact ⟨rfl, rfl, by decide⟩
theorem nil_no : ∀ (b : Nat) (r' : List Nat), ([] : List Nat) = b :: r' -> zcr b = false := fun b r' e => by cases e
theorem zzd4 {n : Nat} : ∀ b ∈ zdp n, b ≠ 45 := fun b hb => (zxq (zkk n b hb)).2.2.2.2.1
theorem zzhc {m u : Bool} {n : Nat} (hn : n < 4294967296) : ∃ a b c e : Nat × Nat, zqw (sgT m ++ (zdp n ++ 32 :: unT u)) = .ok ((if m then [⟨1, zhu, a.1, a.2⟩] else []) ++ [⟨2, zdp n, b.1, b.2⟩, ⟨1, unT u, c.1, c.2⟩, endT e]) := by
 obtain ⟨x, w, hu, hx, hw, hl, h4, hno⟩ := unT_eq u
 have hlen := zi2 9 n (by omega)
 have hpos := List.length_pos_iff.2 (zm9 n)
 have hdt : ∀ r, (∀ b ∈ r, b ≠ 45) -> zdf (zdp n ++ r) = false := fun r h => zzbr fun b hb => (yaf.1 hb).elim (zzd4 b) (h b)
 have hdt' : zdf (zdp n ++ 32 :: (x :: w)) = false := hdt _ fun b hb => by
  rcases ybs.1 hb with rfl | hb
  ·decide
  ·exact hno b hb
 rw [hu]; have hg : ∀ (k ln cl : Nat) (op : Option (Nat × Nat)), ∃ b c e : Nat × Nat, zed (k + 5) (zdp n ++ 32 :: (x :: w)) ln cl op = .ok [⟨2, zdp n, b.1, b.2⟩, ⟨1, x :: w, c.1, c.2⟩, endT e] := by
  intro k ln cl op; refine ⟨(ln, cl), (ln, cl + (zdp n).length + 1), (ln, cl + (zdp n).length + 1 + (x :: w).length), ?_⟩
  have e := zsi (k := k + 2) (ln := ln) (cl := cl + (zdp n).length + 1) (op := some (ln, cl + (zdp n).length)) (r := []) hx hw hl nil_no
  rw [ycd] at e; rw [go_num (k := k + 4) (zm9 n) (zkk n) (zxs n) (by omega) hdt' zon, zn9 (k := k + 3), e]
  rfl
 have hlt : (sgT m ++ (zdp n ++ 32 :: (x :: w))).length <= 100 := by
  have : (sgT m).length <= 6 := by cases m <;> decide
  simp only [ybg, ybn] at hl ⊢; omega
 unfold zqw; rw [yaa (by omega)]
 unfold lexN
 cases m with
 | false =>
  show ∃ a b c e : Nat × Nat, zed ((zdp n ++ 32 :: (x :: w)).length + 1) (zdp n ++ 32 :: (x :: w)) 1 1 none = _
  obtain ⟨k, hk⟩ : ∃ k, (zdp n ++ 32 :: (x :: w)).length + 1 = k + 5 := ⟨(zdp n ++ 32 :: (x :: w)).length - 4, by simp only [ybg, ybn] at h4 ⊢; omega⟩
  rw [hk]; obtain ⟨b, c, e, h⟩ := hg k 1 1 none
  exact ⟨(0, 0), b, c, e, h⟩
 | true =>
  obtain ⟨k, hk⟩ : ∃ k, (sgT true ++ (zdp n ++ 32 :: (x :: w))).length + 1 = k + 5 + 1 + 1 := ⟨(sgT true ++ (zdp n ++ 32 :: (x :: w))).length - 6, by simp only [ybg, ybn, sgT] at h4 ⊢; simp; omega⟩
  rw [hk]; have e0 : sgT true ++ (zdp n ++ 32 :: (x :: w)) = 109 :: ([105, 110, 117, 115] ++ 32 :: (zdp n ++ 32 :: (x :: w))) := rfl
  rw [e0, zsi (k := k + 5 + 1) (by rfl) (by decide) (by decide) (fun b r' e => (zon b r' e).1), zn9 (k := k + 5)]
  obtain ⟨b, c, e, h⟩ := hg k 1 (1 + (109 :: [105, 110, 117, 115]).length + 1) (some (1, 1 + (109 :: [105, 110, 117, 115]).length))
  rw [h]; exact ⟨(1, 1), b, c, e, rfl⟩
theorem int_in {n : Nat} {m : Bool} (h : n <= 1048576) : zz8 (zdp n) m (-1048576) 1048576 = some (if m then -(n : Int) else (n : Int)) := by
 unfold zz8; rw [zoj]
 cases m
 ·simp; omega
 ·simp; omega
theorem zznc {n : Nat} {m : Bool} (h : ¬ n <= 1048576) : zz8 (zdp n) m (-1048576) 1048576 = none := by
 unfold zz8; rw [zoj]
 cases m
 ·simp; omega
 ·simp; omega
theorem zzgo {m u : Bool} {n : Nat} (hn : n < 4294967296) : if n <= 1048576 then z4f zya (sgT m ++ (zdp n ++ 32 :: unT u)) = .ok ⟨if u then 6 else 5, zvt, if m then -(n : Int) else (n : Int)⟩ else ∃ a b, z4f zya (sgT m ++ (zdp n ++ 32 :: unT u)) = .er 121 a b := by
 obtain ⟨a, b, c, e, h⟩ := zzhc (m := m) (u := u) hn
 rw [z1y h]; have k1 : zem zhu zzlg = false := by decide
 have k2 : zem zhu z8r = false := by decide
 have k3 : zem zhu zpt = false := by decide
 have k4 : zem zhu zhu = true := by decide
 have k5 : zem z52 z52 = true := by decide
 have k6 : zem zov z52 = false := by decide
 have k7 : zem zov zov = true := by decide
 have ht : zya ((if m then [⟨1, zhu, a.1, a.2⟩] else []) ++ [⟨2, zdp n, b.1, b.2⟩, ⟨1, unT u, c.1, c.2⟩, endT e]) = match zz8 (zdp n) m (-1048576) 1048576 with
   | none => .er 121 (if m then 1 else 0)
   | some i => .ok ⟨if u then 6 else 5, zvt, i⟩ (if m then 4 else 3) := by
  have hs := z7q n
  cases m <;> cases u <;> cases hi : zz8 (zdp n) _ (-1048576) 1048576 <;>
   simp [zya, z0m, zuv, zts, acc, zks, zmf, zzbf, PR.bind, endT, unT, hs, hi, k1, k2, k3, k4, k5, k6, k7]
 rw [ht]; split
 ·rename_i h1
  rw [int_in h1]
 ·rename_i h1
  rw [zznc h1]; exact ⟨_, _, rfl⟩
end Go.Proofs
namespace Go.Proofs
open Go Go.Am
variable [zb1]
def zyb (m : Bool) (n d : Nat) : List Nat := [109, 111, 110, 101, 121, 32] ++ (sgT m ++ (zdp n ++ 47 :: zdp d))
theorem zzb5 {m : Bool} {n d : Nat} (hn : n < 4294967296) (hd : d < 4294967296) : if d = 0 then ∃ a b, zqw (zyb m n d) = .er 112 a b else
  ∃ p a b e : Nat × Nat, zqw (zyb m n d) = .ok (⟨1, zpt, p.1, p.2⟩ :: ((if m then [⟨1, zhu, a.1, a.2⟩] else []) ++ [⟨2, zdp n ++ 47 :: zdp d, b.1, b.2⟩, endT e])) := by
 have hl1 := zi2 9 n (by omega)
 have hl2 := zi2 9 d (by omega)
 have hp1 := List.length_pos_iff.2 (zm9 n)
 have hp2 := List.length_pos_iff.2 (zm9 d)
 have hdt : zdf (zdp n ++ 47 :: (zdp d ++ [])) = false := zzbr fun b hb => by
  rcases yaf.1 hb with hb | hb
  ·exact zzd4 b hb
  ·rcases ybs.1 hb with rfl | hb
   ·decide
   ·rw [ycd] at hb; exact zzd4 b hb
 have hg : ∀ (k ln cl : Nat) (op : Option (Nat × Nat)), if d = 0 then zed (k + 2) (zdp n ++ 47 :: zdp d) ln cl op = .er 112 ln cl else ∃ b e : Nat × Nat, zed (k + 2) (zdp n ++ 47 :: zdp d) ln cl op = .ok [⟨2, zdp n ++ 47 :: zdp d, b.1, b.2⟩, endT e] := by
  intro k ln cl op; have e := zznh (k := k + 1) (ln := ln) (cl := cl) (op := op) (r := []) (zm9 n) (zkk n) (zxs n) (zm9 d) (zkk d) (zxs d) (by omega) hdt (fun b r' e => by cases e)
  rw [ycd] at e; split
  ·rename_i h0
   rw [e, yab (z0i.2 h0)]
  ·rename_i h0
   rw [e, yaa (fun h => h0 (z0i.1 h))]
   exact ⟨(ln, cl), (ln, cl + (zdp n ++ 47 :: zdp d).length), rfl⟩
 have hlt : (zyb m n d).length <= 100 := by
  unfold zyb; have : (sgT m).length <= 6 := by cases m <;> decide
  simp only [ybg, ybn, ybx]; omega
 have hT : zqw (zyb m n d) = zed ((zyb m n d).length + 1) (zyb m n d) 1 1 none := by
  unfold zqw; rw [yaa (by omega)]
  rfl
 rw [hT]; have e0 : zyb m n d = 109 :: ([111, 110, 101, 121] ++ 32 :: (sgT m ++ (zdp n ++ 47 :: zdp d))) := rfl
 cases m with
 | false =>
  obtain ⟨k, hk⟩ : ∃ k, (zyb false n d).length + 1 = k + 2 + 1 + 1 := ⟨(zyb false n d).length - 3, by rw [e0]; simp only [ybg, ybn, ybx]; omega⟩
  rw [hk, e0, zsi (k := k + 2 + 1) (by rfl) (by decide) (by decide) (fun b r' e => (zon b r' e).1), zn9 (k := k + 2)]
  have h := hg k 1 (1 + (109 :: [111, 110, 101, 121]).length + 1) (some (1, 1 + (109 :: [111, 110, 101, 121]).length))
  show if d = 0 then ∃ a b, LR.cons _ (zed (k + 2) (zdp n ++ 47 :: zdp d) _ _ _) = _ else _
  split at h
  ·rename_i h0
   rw [yab h0, h]; exact ⟨_, _, rfl⟩
  ·rename_i h0
   obtain ⟨b, e, h⟩ := h
   rw [yaa h0]; exact ⟨(1, 1), (0, 0), b, e, by show LR.cons _ (zed (k + 2) (zdp n ++ 47 :: zdp d) _ _ _) = _; rw [h]; rfl⟩
 | true =>
  obtain ⟨k, hk⟩ : ∃ k, (zyb true n d).length + 1 = k + 2 + 1 + 1 + 1 + 1 := ⟨(zyb true n d).length - 5, by rw [e0]; simp only [ybg, ybn, ybx, sgT]; simp; omega⟩
  rw [hk, e0, zsi (k := k + 2 + 1 + 1 + 1) (by rfl) (by decide) (by decide) (fun b r' e => (zon b r' e).1), zn9 (k := k + 2 + 1 + 1)]
  have e1 : sgT true ++ (zdp n ++ 47 :: zdp d) = 109 :: ([105, 110, 117, 115] ++ 32 :: (zdp n ++ 47 :: zdp d)) := rfl
  rw [e1, zsi (k := k + 2 + 1) (by rfl) (by decide) (by decide) (fun b r' e => (zon b r' e).1), zn9 (k := k + 2)]
  have h := hg k 1 (1 + (109 :: [111, 110, 101, 121]).length + 1 + (109 :: [105, 110, 117, 115]).length + 1) (some (1, 1 + (109 :: [111, 110, 101, 121]).length + 1 + (109 :: [105, 110, 117, 115]).length))
  split at h
  ·rename_i h0
   rw [yab h0, h]; exact ⟨_, _, rfl⟩
  ·rename_i h0
   obtain ⟨b, e, h⟩ := h
   rw [yaa h0]; exact ⟨(1, 1), (1, 1 + (109 :: [111, 110, 101, 121]).length + 1), b, e, by rw [h]; rfl⟩
theorem zzam {m : Bool} {n d : Nat} (hn : n < 4294967296) (hd : d < 4294967296) : if d = 0 then ∃ a b, z4f zya (zyb m n d) = .er 112 a b else z4f zya (zyb m n d) = .ok ⟨3, zib m n d, 0⟩ := by
 have h := zzb5 (m := m) hn hd
 split at h
 ·rename_i h0
  rw [yab h0]; obtain ⟨a, b, h⟩ := h
  exact ⟨a, b, z4e h⟩
 ·rename_i h0
  rw [yaa h0]; obtain ⟨p, a, b, e, h⟩ := h
  rw [z1y h]; have k1 : zem zpt zzlg = false := by decide
  have k2 : zem zpt z8r = false := by decide
  have k3 : zem zpt zpt = true := by decide
  have k4 : zem zhu zhu = true := by decide
  obtain ⟨c1, c2, c3⟩ := zzif (ds := zdp n) (es := zdp d) (zkk n)
  have hf : ∀ m, zsj (zdp n ++ 47 :: zdp d) m = zib m n d := by
   intro m; unfold zsj; rw [c1, c2, c3, yab rfl, zoj, zoj]
  have ht : zya (⟨1, zpt, p.1, p.2⟩ :: ((if m then [⟨1, zhu, a.1, a.2⟩] else []) ++ [⟨2, zdp n ++ 47 :: zdp d, b.1, b.2⟩, endT e])) = .ok ⟨3, zib m n d, 0⟩ (if m then 4 else 3) := by
   cases m <;> simp [zya, z0m, zts, acc, zks, zmf, zzbf, PR.bind, endT, hf, k1, k2, k3, k4]
  rw [ht]
end Go.Proofs
namespace Go.Proofs
open Go Go.Am
variable [zb1]
def tMon (i0 i1 : Int) (l0 : List Nat) (g0 : Bool) : T := .opt (zi8 [109, 111, 110, 101, 121, 32] l0)<|uS fun s231=>.call 19 [.int .u32 i0]<|uS fun s=>.opt (zi8 s231 s)<|uS fun s=>.opt (zi8 s [47])<|uS fun s237=>.call 19 [.int .u32 i1]<|uS fun s=>.opt (zi8 s237 s)<|uS fun s=>.call 18 [.str s] fun a=>.opt (uX 0 a)<|uG z8g fun X244=>.opt (uX 1 a)<|uG z1a fun X=>.opt (uX 2 a)<|uI fun n=>.ite (uOn (uM4 X244)) (.ite true (.ite (iEq i1 0) (.ret (.bool (iEq n 112))) (.ite (!iEq n 0) uFa (.ite (!iEq (X244.i 0) 3) uFa (.ite g0 (.ite (!bEq (X244.b 1) (iLt 0 i0)) uFa (.ite (!iEq (X244.i 5) 0) uFa (.call 20 [X244.v 2]<|uI fun n250=>.ite (same 10 (X244.v 4) (X244.v 4)) (.call 20 [X244.v 4]<|uI fun n=>.ite (iLe 0 n250) (.ite (iLt 0 n) (.ite (iEq (uW ((uW i0) * n)) (uW ((uW i1) * n250))) (.call 21 [uZ n250, uZ n]<|uI fun n=>.ret (.bool (iEq n 1))) uFa) uFa) uFa) .fail))) (.ite (!bEq (X244.b 1) false) uFa (.ite (!iEq (X244.i 5) 0) uFa (.call 20 [X244.v 2]<|uI fun n256=>.ite (same 10 (X244.v 4) (X244.v 4)) (.call 20 [X244.v 4]<|uI fun n=>.ite (iLe 0 n256) (.ite (iLt 0 n) (.ite (iEq (uW ((uW i0) * n)) (uW ((uW i1) * n256))) (.call 21 [uZ n256, uZ n]<|uI fun n=>.ret (.bool (iEq n 1))) uFa) uFa) uFa) .fail))))))) .fail) .fail
theorem zzl5 {t : Tr zav} {l : List Nat} {v : zab} (h : RSl t 1 (zf7 l) v) : same 10 v v = true := by
 obtain ⟨cl, he, _⟩ := h
 rcases he with ⟨rfl, _⟩ | ⟨b, off, cap, rfl, _⟩
 ·rfl
 ·simp [same]
theorem zzit (b : Bool) : bEq b b = true := by cases b <;> rfl
section
variable {t : Tr zav} {Q : zbo} {J : zd3}
theorem zzi5 {s : List Nat} {K : zg6 -> Int -> T} (hg : zfc t) (hby : ∀ b ∈ s, b < 256)
  (hok : ∀ x, z4f zya s = .ok x -> ∀ t' cs, TLe t t' -> RD t' x.d cs -> wpT C30.base (Wq C30 F zct) J (K (cellsOf cs) 0) t' Q)
  (her : ∀ (e a b : Nat), z4f zya s = .er e a b -> ∀ t', TLe t t' -> wpT C30.base (Wq C30 F zct) J (K (cellsOf zV) (e : Int)) t' Q) :
  wpT C30.base (Wq C30 F zct) J (.call 18 [.str s] fun a=>.opt (uX 0 a)<|uG z8g fun X8=>.opt (uX 1 a)<|uG z1a fun X=>.opt (uX 2 a)<|uI fun n=>.ite (uOn (uM4 X8)) (.ite true (K X8 n) .fail) .fail) t Q := by
 refine zam ?_
 rw [q18]; refine zzli hg hby ?_
 cases hr : z4f zya s with
 | ok x =>
  intro t' cs k1 k2; refine zah (v := .agg cs) rfl (zbq (agV k2) (zah (v := .agg [.int .i64 0, .int .i64 0]) rfl (zbq ag2 (zah (v := .int .i64 0) rfl (zaw ?_)))))
  have hc : uM4 (cellsOf cs) = cs := zzio k2
  show wpT _ _ _ (.ite (zfh zab.one (uM4 (cellsOf cs))) _ _) _ _
  rw [hc]; exact zag (by obtain ⟨a, b, rfl, _⟩ := znm k2; exact k2.all) (zag rfl (hok x hr t' cs k1 k2))
 | er e a b =>
  intro t' k1; exact zah (v := .agg zV) rfl (zbq rt47.ag (zah (v := .agg [.int .i64 (a : Int), .int .i64 (b : Int)]) rfl (zbq ag2 (zah (v := .int .i64 (e : Int)) rfl (zaw (zag rfl (zag rfl (her e a b hr t' k1))))))))
theorem sg_by {m : Bool} : ∀ b ∈ sgT m, b < 256 := by cases m <;> decide
theorem zzd5 {n : Nat} : ∀ b ∈ zdp n, b < 256 := fun b hb => by
 have := zkk n b hb
 unfold zba at this; simp only [ybb, decide_eq_true_eq] at this; omega
theorem zzjy {n d : Nat} {m : Bool} (hg : zfc t) (hn : n < 2147483648) (hd : d < 2147483648) : wpT C30.base (Wq C30 F zct) J (tMon (n : Int) (d : Int) (sgT m) m) t (fun v _ => v = .bool true) := by
 have l1 := zi2 9 n (by omega)
 have l2 := zi2 9 d (by omega)
 have l0 : (sgT m).length <= 6 := by cases m <;> decide
 unfold tMon uS; refine zah (zj6 (by simp only [ybn, ybx]; omega)) (zcc (zam ?_))
 rw [q19, zzd3 (by omega), zaa]
 refine zcc (zah (zj6 (by simp only [ybg, ybn, ybx]; omega)) (zcc (zah (zj6 (by simp only [ybg, ybn, ybx]; omega)) (zcc (zam ?_)))))
 rw [q19, zzd3 (by omega), zaa]
 refine zcc (zah (zj6 (by simp only [ybg, ybn, ybx]; omega)) (zcc ?_))
 have e : ([109, 111, 110, 101, 121, 32] ++ sgT m ++ zdp n ++ [47] ++ zdp d) = zyb m n d := by unfold zyb; simp
 rw [e]; have hby : ∀ b ∈ zyb m n d, b < 256 := by
  intro b hb; unfold zyb at hb; rcases yaf.1 hb with hb | hb
  ·have hc : ∀ x ∈ [109, 111, 110, 101, 121, 32], x < 256 := by decide
   exact hc b hb
  rcases yaf.1 hb with hb | hb
  ·exact sg_by b hb
  rcases yaf.1 hb with hb | hb
  ·exact zzd5 b hb
  rcases ybs.1 hb with rfl | hb
  ·decide
  ·exact zzd5 b hb
 have hrun := zzam (m := m) (n := n) (d := d) (by omega) (by omega)
 refine zzi5 hg hby (fun x hx t' cs hle hrd => ?_) (fun e a b hx t' hle => ?_)
 ·by_cases h0 : d = 0
  ·rw [yab h0] at hrun
   obtain ⟨a, b, hrun⟩ := hrun
   rw [hrun] at hx; cases hx
  rw [yaa h0] at hrun; rw [hrun] at hx
  cases hx; obtain ⟨a, b, rfl, ha, hb⟩ := znm hrd
  have hgp : 0 < Nat.gcd n d := Nat.gcd_pos_of_pos_right _ (by omega)
  have la : n / Nat.gcd n d <= n := Nat.div_le_self _ _
  have lb : d / Nat.gcd n d <= d := Nat.div_le_self _ _
  have hsa : pvC C30 F 20 [a] t' = some (.int .i64 ((n / Nat.gcd n d : Nat) : Int)) := zzaf (by omega) ha
  have hsb : pvC C30 F 20 [b] t' = some (.int .i64 ((d / Nat.gcd n d : Nat) : Int)) := zzaf (by omega) hb
  have hbp : 0 < d / Nat.gcd n d := Nat.div_pos (Nat.le_of_dvd (by omega) (Nat.gcd_dvd_right n d)) hgp
  have tail : ∀ (v4 v2 : zab), v2 = a -> v4 = b -> wpT C30.base (Wq C30 F zct) J (.call 20 [v2]<|uI fun n250=>.ite (same 10 v4 v4) (.call 20 [v4]<|uI fun n'=>.ite (iLe 0 n250) (.ite (iLt 0 n') (.ite (iEq (uW ((uW (n : Int)) * n')) (uW ((uW (d : Int)) * n250))) (.call 21 [uZ n250, uZ n']<|uI fun n=>.ret (.bool (iEq n 1))) uFa) uFa) uFa) .fail) t' (fun v _ => v = .bool true) := by
   rintro v4 v2 rfl rfl
   refine zam ?_
   rw [q20, hsa, zaa]; refine zaw (zag (zzl5 hb) (zam ?_))
   rw [q20, hsb, zaa]; refine zaw (zag (by rw [zmb]; exact decide_eq_true (Int.natCast_nonneg _)) (zag (by rw [zbu]; exact decide_eq_true (by omega)) (zag ?_ (zam ?_))))
   ·have hm : n * (d / Nat.gcd n d) = d * (n / Nat.gcd n d) := by
     obtain ⟨x, hx⟩ := Nat.gcd_dvd_left n d
     obtain ⟨y, hy⟩ := Nat.gcd_dvd_right n d
     have h1 : n / Nat.gcd n d = x := by have k := Nat.mul_div_cancel_left x hgp; rwa [<- hx] at k
     have h2 : d / Nat.gcd n d = y := by have k := Nat.mul_div_cancel_left y hgp; rwa [<- hy] at k
     rw [h1, h2]; calc n * y = (Nat.gcd n d * x) * y := by rw [<- hx]
      _ = (Nat.gcd n d * y) * x := by rw [ybj, ybh x y, <- ybj]
      _ = d * x := by rw [<- hy]
    have b1 : n * (d / Nat.gcd n d) < 4611686018427387904 := yam (ydb (Nat.le_of_lt_succ (show n < 2147483647 + 1 from hn)) (Nat.le_trans lb (Nat.le_of_lt_succ (show d < 2147483647 + 1 from hd)))) (by decide)
    have e1 : uW (uW (n : Int) * ((d / Nat.gcd n d : Nat) : Int)) = ((n * (d / Nat.gcd n d) : Nat) : Int) := by
     unfold uW; rw [zan (n := (n : Int)) (by omega) (by omega), <- Int.natCast_mul, zan (by omega) (by omega)]
    have e2 : uW (uW (d : Int) * ((n / Nat.gcd n d : Nat) : Int)) = ((d * (n / Nat.gcd n d) : Nat) : Int) := by
     unfold uW; rw [zan (n := (d : Int)) (by omega) (by omega), <- Int.natCast_mul, zan (by omega) (by omega)]
    rw [e1, e2, hm, zc0]; simp
   ·rw [q21]
    show zf8 (pvC C30 F 21 [.int .i64 ((n / Nat.gcd n d : Nat) : Int), .int .i64 ((d / Nat.gcd n d : Nat) : Int)] t') _
    rw [zzhy (by omega) (by omega), zaa]
    refine zaw ?_
    show zab.bool _ = _
    rw [Nat.gcd_div (Nat.gcd_dvd_left n d) (Nat.gcd_dvd_right n d), Nat.div_self hgp]
    rfl
  refine zaz (by rw [zc0]; simp; omega) (zaz (by simp [zc0]) (zaz (by show ¬ (!iEq (3 : Int) 3) = true; decide) ?_))
  cases m with
  | true =>
   refine zag rfl (zaz ?_ (zaz (by show ¬ (!iEq (0 : Int) 0) = true; decide) (tail _ _ rfl rfl)))
   show ¬ (!bEq (true && decide (0 < n)) (iLt 0 (n : Int))) = true
   rw [zbu, ycn, show decide ((0 : Int) < (n : Int)) = decide (0 < n) from by simp, zzit]
   simp
  | false =>
   refine zaz (by simp) (zaz ?_ (zaz (by show ¬ (!iEq (0 : Int) 0) = true; decide) (tail _ _ rfl rfl)))
   show ¬ (!bEq (false && decide (0 < n)) false) = true
   rw [Bool.false_and]; decide
 ·by_cases h0 : d = 0
  ·rw [yab h0] at hrun
   obtain ⟨a', b', hrun⟩ := hrun
   rw [hrun] at hx
   cases hx; refine zag (by rw [zc0]; simp [h0]) ?_
   rfl
  ·rw [yaa h0] at hrun
   rw [hrun] at hx; cases hx
theorem zzd9 {n0 d0 : Nat} {m u : Bool} (hg : zfc t) (hn0 : n0 < 4294967296) (hd0 : d0 < 4294967296) : Wc C30 F 5 [.agg [.int .u32 (n0 : Int), .int .u32 (d0 : Int)], .agg [.bool m, .bool u]] t (fun v _ => v = .bool true) := by
 have en : Int.fdiv (n0 : Int) 2 = ((n0 / 2 : Nat) : Int) := by rw [Int.fdiv_eq_ediv_of_nonneg _ (by omega)]; rfl
 have ed : Int.fdiv (d0 : Int) 2 = ((d0 / 2 : Nat) : Int) := by rw [Int.fdiv_eq_ediv_of_nonneg _ (by omega)]; rfl
 have hn : n0 / 2 < 2147483648 := by omega
 have hd : d0 / 2 < 2147483648 := by omega
 revert en ed hn hd
 generalize n0 / 2 = n
 generalize d0 / 2 = d
 intro en ed hn hd; have l1 := zi2 9 n (by omega)
 have l0 : (sgT m).length <= 6 := by cases m <;> decide
 have lu : (32 :: unT u).length <= 7 := by cases u <;> decide
 have hby : ∀ b ∈ sgT m ++ (zdp n ++ 32 :: unT u), b < 256 := by
  intro b hb; rcases yaf.1 hb with hb | hb
  ·exact sg_by b hb
  rcases yaf.1 hb with hb | hb
  ·exact zzd5 b hb
  have hc : ∀ x ∈ 32 :: unT u, x < 256 := by cases u <;> decide
  exact hc b hb
 have hrun := zzgo (m := m) (u := u) (n := n) (by omega)
 have main : jp 5 19 [.int .u32 (n : Int), .int .u32 (d : Int), .bool m, .str (sgT m), .str (32 :: unT u), .int .u8 (if u then 6 else 5)] t (fun v _ => v = .bool true) := by
  refine j5_19 ?_
  unfold t5_19; refine zam ?_
  rw [q19, zzd3 (by omega), zaa]
  refine zcc (zah (zj6 (by omega)) (zcc (zah (zj6 (by rw [ybg]; omega)) (zcc ?_))))
  rw [ybz]; refine zzi5 hg hby (fun x hx t' cs hle hrd => ?_) (fun e a b hx t' hle => ?_)
  ·by_cases hin : n <= 1048576
   ·rw [yab hin] at hrun
    rw [hrun] at hx
    cases hx; obtain ⟨a, b, rfl, ha, hb⟩ := znm hrd
    have mon := zzjy (J := Jq C30 F 5) (t := t') (m := m) (hg.mono hle) hn hd
    have hI : iLe (n : Int) 1048576 = true := by rw [zmb]; exact decide_eq_true (by omega)
    have e1 : uW (n : Int) = (n : Int) := zan (by omega) (by omega)
    have e2 : uW (0 - uW (n : Int)) = -(n : Int) := by rw [e1]; unfold uW; rw [zan (by omega) (by omega)]; omega
    refine zaz (by rw [hI]; decide) (zaz (by rw [hI]; decide) (zag hI (zaz ?_ ?_)))
    ·cases u
     ·show ¬ (!iEq (5 : Int) 5) = true; decide
     ·show ¬ (!iEq (6 : Int) 6) = true; decide
    by_cases hm : (if m then -(n : Int) else (n : Int)) = (n : Int)
    ·refine zaz ?_ ?_
     ·show ¬ (!iEq (if m then -(n : Int) else (n : Int)) (uW (n : Int))) = true
      rw [e1, hm, zc0]; simp
     cases m with
     | false => exact zaz (by simp) mon
     | true =>
      refine zag rfl (zaz ?_ (zaz (by decide) mon))
      show ¬ (!iEq (-(n : Int)) (uW (0 - uW (n : Int)))) = true
      rw [e2, zc0]; simp
    ·refine zag ?_ ?_
     ·show (!iEq (if m then -(n : Int) else (n : Int)) (uW (n : Int))) = true
      rw [e1, zc0, decide_eq_false hm]; rfl
     cases m with
     | false => exact absurd rfl hm
     | true =>
      refine zaz ?_ (zaz (by decide) mon)
      show ¬ (!iEq (-(n : Int)) (uW (0 - uW (n : Int)))) = true
      rw [e2, zc0]; simp
   ·rw [yaa hin] at hrun
    obtain ⟨a, b, hrun⟩ := hrun
    rw [hrun] at hx; cases hx
  ·by_cases hin : n <= 1048576
   ·rw [yab hin] at hrun
    rw [hrun] at hx; cases hx
   ·rw [yaa hin] at hrun
    obtain ⟨a', b', hrun⟩ := hrun
    rw [hrun] at hx
    cases hx; have mon := zzjy (J := Jq C30 F 5) (t := t') (m := m) (hg.mono hle) hn hd
    have hI : iLe (n : Int) 1048576 = false := by rw [zmb]; exact decide_eq_false (by omega)
    exact zaz (by rw [hI]; decide) (zag (by rw [hI]; rfl) (zaz (by decide) (zaz (by rw [hI]; decide) mon)))
 refine w5 ?_
 unfold t5; refine zam ?_
 have h9 : pvC C30 F 9 [] t = some (.bool true) := zrv (g := zzgy) (by kernel_rfl) fun H => rfl
 rw [q9, h9, zaa]; refine zcf (zaz (by decide) ?_)
 rw [en, ed]
 cases m with
 | true =>
  refine zag rfl (za3 (j5_15 ?_))
  unfold zzlz
  cases u with
  | true => exact zag rfl (za3 main)
  | false => exact zaz (by decide) (za3 main)
 | false =>
  refine zaz (by decide) (za3 (j5_15 ?_))
  unfold zzlz
  cases u with
  | true => exact zag rfl (za3 main)
  | false => exact zaz (by decide) (za3 main)
end
end Go.Proofs
namespace Go.Am
open Go Go.RowKit Go.Proofs
theorem consts5 {w : World} (hL : zd2 w) {n d : Nat} {m u : Bool} (hn : n < 4294967296) (hd : d < 4294967296) :
  Calls Tryz.prog 5 #[.agg #[.int .u32 (n : Int), .int .u32 (d : Int)], .agg #[.bool m, .bool u]] w fun e w' => e = .returned (.bool true) /\ Below w.heap.size w w' :=
 z6d hL 5 [.agg [.int .u32 (n : Int), .int .u32 (d : Int)], .agg [.bool m, .bool u]] _ (by intro _; kernel_rfl)
  (.cons (by rw [zaq]; exact ⟨_, rfl, .cons (by rw [zaq]) (.single (by rw [zaq]))⟩) (.single (by rw [zaq]; exact ⟨_, rfl, .cons (by rw [zaq]) (.single (by rw [zaq]))⟩))) ⟨_, zzd9 (zzni hL) hn hd, fun v t h => h⟩
end Go.Am
