/- Trees: slots, regions. -/
import Derived.Lib.Bytealg
import Derived.Lib.Index
import Derived.Lib.IndexMore
import Derived.Lib.ItoaNum
import Derived.Shelf.Strings.Builder1
import Derived.Test.YtbgilkcahebbfaaGreatDoorB06
set_option linter.all false
noncomputable section
namespace Go.Am
open Go Go.RowKit
structure zde (base : Nat) (X0 : Xt) (kf : Nat) (ν : Nat -> Nat) (X : Xt) (st : TSt) (tm : Tm) (HA : zaf) (t : Tr zak) : Prop where
 ov : Ov base t X HA
 le : XLe X0 X
 k : st.tm.k = kf
 kA : tm.k = kf
 tms : ∀ i v, st.tm.get i = some v -> tm.get i = some v
 ads : ∀ i p, zge i st.ad = some p -> tm.get i = some (.ptr (ν p.1) p.2)
 lo : zzdc base X0 X ν st.lo
 inj : ∀ d d' l l', st.lo.get d = some l -> st.lo.get d' = some l' -> ν d = ν d' -> d = d'
theorem ze6 {i : Nat} {a : Nat × Nat × Nat} {l : List (Nat × Nat × Nat)} : zge i (a :: l) = if i = a.1 then some a.2 else zge i l := by
 show Bool.rec (motive := fun _ => Option (Nat × Nat)) (zge i l) (some a.2) (Nat.beq i a.1) = _
 rw [zns]; simp only [zcy]
theorem zzc5 {i : Nat} {p : Nat × Nat} : ∀ {l : List (Nat × Nat × Nat)}, zge i l = some p -> (i, p.1, p.2) ∈ l := by
 intro l; induction l with
 | nil => intro h; cases h
 | cons a l ih =>
  intro h; rw [ze6] at h; split at h
  ·rename_i e; cases h; rw [e]; exact yaz
  ·exact yas _ (ih h)
theorem z3i {n : Nat} {tm : Tm} {dst : Option Nat} {v : zab} : (putA n tm dst v).k = tm.k := by
 unfold putA putB
 cases dst with
 | none => rfl
 | some d =>
  simp only [zzeg, zal]; split
  ·unfold Tm.set; rw [zns]; split <;> rfl
  ·rfl
theorem Tm.set_k {tm : Tm} {i : Nat} {v : zab} : (tm.set i v).k = tm.k := by unfold Tm.set; rw [zns]; split <;> rfl
section
variable {W J : zhn} {t : Tr zak} {X X0 : Xt} {HA : zaf} {C : Ctx} {A : Tr zcc} {ν : Nat -> Nat} {Q : zao} {kf n : Nat} {st : TSt} {tm : Tm}
theorem zde.put (h : zde C.base X0 kf ν X st tm HA t) {dst : Option Nat} {v : zab} {lt : Bool} {κ : KT} (hw : wpT C.base W J (z21 n dst v lt st κ) t Q) :
  ∃ st', zde C.base X0 kf ν X st' (putA n tm dst v) HA t /\ wpT C.base W J (κ st') t Q := by
 unfold z21 at hw
 cases dst with
 | none => exact ⟨st, h, hw⟩
 | some d =>
  simp only [zal] at hw; split at hw
  ·rename_i hd
   rw [zf8] at hw; obtain ⟨h1, h2⟩ := hw
   refine ⟨_, ?_, h2⟩
   refine ⟨h.ov, h.le, (by show (st.tm.set d v).k = kf; rw [Tm.set_k]; exact h.k), by rw [z3i]; exact h.kA, ?_, ?_, h.lo, h.inj⟩
   ·intro i u hi
    have hi2 : (st.tm.set d v).get i = some u := hi
    rw [Tm.get_set] at hi2; rw [zby]; split at hi2
    ·rename_i e; rw [if_pos ⟨by rw [e], by rw [e]; exact zc8.1 hd⟩]; exact hi2
    ·rename_i e
     rw [if_neg (fun hh => e (by injection hh.1 with e1; exact e1.symm))]
     exact h.tms i u hi2
   ·intro i p hi
    rw [zby, if_neg]
    ·exact h.ads i p hi
    ·rintro ⟨e, _⟩
     injection e with e
     subst e; rw [hi] at h1
     cases h1
  ·rename_i hd
   refine ⟨st, ?_, hw⟩
   have : putA n tm (some d) v = tm := by
    unfold putA putB; simp only [zzeg, zal]; rw [if_neg hd]
   rw [this]; exact h
theorem zde.putA (h : zde C.base X0 kf ν X st tm HA t) {dst : Option Nat} {d off : Nat} {κ : KT} (hw : wpT C.base W J (zzir n dst d off st κ) t Q) :
  ∃ st', zde C.base X0 kf ν X st' (Am.putA n tm dst (.ptr (ν d) off)) HA t /\ wpT C.base W J (κ st') t Q := by
 unfold zzir at hw; rw [zbg] at hw; obtain ⟨i, h1, hw⟩ := hw
 subst h1; simp only [zf8] at hw; obtain ⟨h2, h3, h4⟩ := hw
 refine ⟨_, ?_, h4⟩
 refine ⟨h.ov, h.le, h.k, by rw [z3i]; exact h.kA, ?_, ?_, h.lo, h.inj⟩
 ·intro j u hj
  rw [zby, if_neg]
  ·exact h.tms j u hj
  ·rintro ⟨e, _⟩
   injection e with e
   subst e; have hj : st.tm.get i = some u := hj
   rw [hj] at h3
   cases h3
 ·intro j p hj
  have hj : zge j ((i, d, off) :: st.ad) = some p := hj
  rw [ze6] at hj; rw [zby]; split at hj
  ·rename_i e; cases hj; rw [if_pos ⟨by rw [e], by rw [e]; exact zc8.1 h2⟩]
  ·rename_i e
   rw [if_neg (fun hh => e (by injection hh.1 with e1; exact e1.symm))]
   exact h.ads j p hj
theorem zde.new (h : zde C.base X0 kf ν X st tm HA t) {d : Nat} {l : List zab} {κ : KT} (hw : wpT C.base W J (tNew n d l st κ) t Q) :
  ∃ st' ν' X', zde C.base X0 kf ν' X' st' (Am.putA n tm (some d) (.ptr HA.next 0)) (za0 HA l none) t /\ wpT C.base W J (κ st') t Q := by
 unfold tNew at hw; simp only [zf8] at hw; obtain ⟨h1, h2, h3, h4⟩ := hw
 have hx := h.ov.nextX
 refine ⟨_, fun c => if c = d then HA.next else ν c, fun c => if c = HA.next then some (.cells (Tr.ofList l) (zbw l) none) else X c, ?_, h4⟩
 refine ⟨h.ov.newX _, ?_, h.k, by rw [z3i]; exact h.kA, ?_, ?_, ?_, ?_⟩
 ·intro b y hb
  have : X b = some y := h.le b y hb
  show (if b = HA.next then _ else X b) = some y
  rw [if_neg, this]; intro e; rw [e, hx] at this; cases this
 ·intro j u hj
  rw [zby, if_neg]
  ·exact h.tms j u hj
  ·rintro ⟨e, _⟩
   injection e with e
   subst e; have hj : st.tm.get d = some u := hj
   rw [hj] at h2
   cases h2
 ·intro j p hj
  have hj : zge j ((d, d, 0) :: st.ad) = some p := hj
  rw [ze6] at hj; rw [zby]; split at hj
  ·rename_i e
   cases hj; rw [if_pos ⟨by rw [e], by rw [e]; exact zc8.1 h1⟩]
   show some (zab.ptr HA.next 0) = some (zab.ptr (if d = d then HA.next else ν d) 0)
   rw [if_pos rfl]
  ·rename_i e
   rw [if_neg (fun hh => e (by injection hh.1 with e1; exact e1.symm))]
   have hm := zzc5 hj
   unfold zzhg at h3; rw [zc3, ybc] at h3; have := h3 _ hm
   simp only [zal] at this; have hne : p.1 ≠ d := by
    intro e2; rw [if_pos (zcy.2 e2)] at this
    exact e (zcy.1 this)
   show Tm.get tm j = some (zab.ptr (if p.1 = d then HA.next else ν p.1) p.2)
   rw [if_neg hne]; exact h.ads j p hj
 ·intro c m hc
  have hc : (st.lo.set d l).get c = some m := hc
  rw [Tr.get_set] at hc; show X0 (if c = d then HA.next else ν c) = none /\ C.base <= (if c = d then HA.next else ν c) /\ ∃ c', (if (if c = d then HA.next else ν c) = HA.next then some (zak.cells (Tr.ofList l) (zbw l) none) else X (if c = d then HA.next else ν c)) = some (.cells c' m.length none) /\ ∀ j a, m[j]? = some a -> c'.get j = some a
  split at hc
  ·rename_i e
   cases hc; simp only [e, if_true]; refine ⟨?_, h.ov.base, Tr.ofList l, by rw [za1], fun j a hj => by rw [Tr.get_ofList]; exact hj⟩
   cases hq : X0 HA.next with
   | none => rfl
   | some z => have := h.le _ _ hq; rw [hx] at this; cases this
  ·rename_i e
   simp only [if_neg e]; obtain ⟨g1, g2, c', g3, g4⟩ := h.lo c m hc
   refine ⟨g1, g2, c', ?_, g4⟩
   rw [if_neg, g3]; intro e2; rw [e2, hx] at g3; cases g3
 ·intro c c' m m' hc hc' he
  have hc : (st.lo.set d l).get c = some m := hc
  have hc' : (st.lo.set d l).get c' = some m' := hc'
  have he : (if c = d then HA.next else ν c) = (if c' = d then HA.next else ν c') := he
  rw [Tr.get_set] at hc hc'
  split at hc <;> split at hc'
  ·rename_i e1 e2; rw [e1, e2]
  ·rename_i e1 e2
   rw [if_pos e1, if_neg e2] at he; obtain ⟨_, _, _, g3, _⟩ := h.lo c' m' hc'
   rw [<- he, hx] at g3; cases g3
  ·rename_i e1 e2
   rw [if_neg e1, if_pos e2] at he; obtain ⟨_, _, _, g3, _⟩ := h.lo c m hc
   rw [he, hx] at g3; cases g3
  ·rename_i e1 e2
   rw [if_neg e1, if_neg e2] at he; exact h.inj c c' m m' hc hc' he
theorem zde.setLo (h : zde C.base X0 kf ν X st tm HA t) {d : Nat} {l l' : List zab} {c' : Tr zab} (h1 : st.lo.get d = some l) (h2 : l'.length = l.length) (h3 : ∀ j a, l'[j]? = some a -> c'.get j = some a) :
  ∃ X', zde C.base X0 kf ν X' ⟨st.tm, st.ad, st.lo.set d l', st.lit⟩ tm (setBlk HA (ν d) (.cells c' l.length none)) t := by
 obtain ⟨g1, g2, c, g3, g4⟩ := h.lo d l h1
 refine ⟨_, h.ov.setX g3 _, ?_, h.k, h.kA, h.tms, h.ads, ?_, ?_⟩
 ·intro b y hb
  show (if b = ν d then _ else X b) = some y
  rw [if_neg]
  ·exact h.le b y hb
  ·intro e; rw [e, g1] at hb; cases hb
 ·intro e m he
  have he : (st.lo.set d l').get e = some m := he
  rw [Tr.get_set] at he; split at he
  ·rename_i e1
   cases he; subst e1; exact ⟨g1, g2, c', by show (if ν e = ν e then _ else _) = _; rw [if_pos rfl, h2], h3⟩
  ·rename_i e1
   obtain ⟨k1, k2, k3, k4, k5⟩ := h.lo e m he
   refine ⟨k1, k2, k3, ?_, k5⟩
   show (if ν e = ν d then _ else X (ν e)) = _
   rw [if_neg, k4]; intro e2; exact e1 (h.inj e d m l he h1 e2)
 ·intro e e' m m' he he' hv
  have he : (st.lo.set d l').get e = some m := he
  have he' : (st.lo.set d l').get e' = some m' := he'
  rw [Tr.get_set] at he he'
  have x1 : ∃ q, st.lo.get e = some q := by
   split at he
   ·rename_i e1; rw [e1]; exact ⟨l, h1⟩
   ·exact ⟨m, he⟩
  have x2 : ∃ q, st.lo.get e' = some q := by
   split at he'
   ·rename_i e1; rw [e1]; exact ⟨l, h1⟩
   ·exact ⟨m', he'⟩
  exact h.inj e e' _ _ x1.choose_spec x2.choose_spec hv
theorem zde.later (h : zde C.base X0 kf ν X st tm HA t) {X' : Xt} {HA' : zaf} {t' : Tr zak} (ho : Ov C.base t' X' HA') (hx : XLe X X') : zde C.base X0 kf ν X' st tm HA' t' :=
 ⟨ho, h.le.trans hx, h.k, h.kA, h.tms, h.ads, fun d l hd => by
  obtain ⟨g1, g2, c, g3, g4⟩ := h.lo d l hd
  exact ⟨g1, g2, c, hx _ _ g3, g4⟩, h.inj⟩
theorem zp7 {ty : Nat} {v : zab} (h : fitB C ty v = true) : zzfu C ty v := by
 unfold fitB at h; unfold zzfu
 cases hy : C.tys.get ty with
 | none => trivial
 | some y =>
  rw [hy] at h; simp only at h ⊢
  unfold fitD
  cases hd : y.desc <;> rw [hd] at h <;> simp only at h ⊢
  case bool =>
   have := zcy.1 h
   cases v <;> simp only [zab.tag] at this <;> first
    | exact ⟨_, rfl⟩
    | (cases this; done)
  case int k =>
   cases v <;> simp only [zab.asIntK] at h <;> first
    | exact ⟨_, by rw [zev.1 h]⟩
    | (cases h; done)
  case string =>
   have := zcy.1 h
   cases v <;> simp only [zab.tag] at this <;> first
    | exact ⟨_, rfl⟩
    | (cases this; done)
theorem zwl {ty : Nat} {v : zab} (h : (!Nat.ble (zla C ty) 2) = true) : zzfu C ty v := by
 unfold zzfu; unfold zla at h
 cases hy : C.tys.get ty with
 | none => trivial
 | some y =>
  rw [hy] at h; simp only at h ⊢
  unfold fitD
  cases hd : y.desc <;> rw [hd] at h <;> first
   | trivial
   | (simp only [zce.tag] at h; exact absurd h (by decide))
theorem zhe : ∀ (zs l : List zab) (pre : List zab), zl4 zs l = true -> zg8 zs (cellsOf (pre ++ l)) pre.length = l := by
 intro zs; induction zs with
 | nil => intro l pre h; cases l with
  | nil => rfl
  | cons a l => cases h
 | cons z zs ih =>
  intro l pre h
  cases l with
  | nil => cases h
  | cons a l =>
   unfold zl4 at h; rw [yac] at h; show zzac z (cellsOf (pre ++ a :: l)) pre.length :: zg8 zs (cellsOf (pre ++ a :: l)) (pre.length + 1) = a :: l
   have e2 := ih l (pre ++ [a]) h.2
   rw [yba] at e2; simp only [List.cons_append, List.nil_append, yah, yao, yay] at e2; rw [e2]; congr 1
   have hg : (pre ++ a :: l)[pre.length]? = some a := by simp
   have h1 := h.1
   cases z <;> simp only [zzft] at h1 <;> simp only [zzac, cellsOf, zu2, zzjy, strAt, z7w, hg] <;> try (cases h1; done)
   case bool =>
    have := zcy.1 h1
    cases a <;> simp only [zab.tag] at this <;> first
     | rfl
     | (cases this; done)
   case int k _ =>
    cases a <;> simp only [zab.asIntK] at h1 <;> first
     | (rw [zev.1 h1]; done)
     | (cases h1; done)
   case str =>
    have := zcy.1 h1
    cases a <;> simp only [zab.tag] at this <;> first
     | rfl
     | (cases this; done)
theorem z22 {ty : Nat} {v : zab} {K : zab -> T} (h : wpT C.base W J (z8m C ty v K) t Q) : zzfu C ty v /\ wpT C.base W J (K v) t Q := by
 unfold z8m at h; unfold zzfu; have agg : ∀ zs, wpT C.base W J (bif Nat.ble (zbw zs) 40 then .asG zs v fun X => K (.agg (zg8 zs X 0)) else K v) t Q -> wpT C.base W J (K v) t Q := by
  intro zs h; rw [zal] at h; split at h
  ·have h : zcf (z7b zs v) fun X => wpT C.base W J (K (.agg (zg8 zs X 0))) t Q := h
   rw [zfd] at h; obtain ⟨X, h1, h2⟩ := h
   unfold z7b at h1; simp only [zad, zae] at h1; obtain ⟨l, h3, h4, h5⟩ := h1
   cases h5; have := zhe zs l [] h4
   simp only [List.nil_append, yay] at this; rw [this] at h2; rw [zgz.1 h3]; exact h2
  ·exact h
 cases hy : C.tys.get ty with
 | none => rw [hy] at h; exact ⟨trivial, h⟩
 | some y =>
  rw [hy] at h; simp only at h ⊢
  unfold fitD
  cases hd : y.desc <;> rw [hd] at h <;> simp only at h ⊢
  case bool =>
   have h : zcf v.asBool fun n => wpT C.base W J (K (.bool n)) t Q := h
   rw [zfd] at h; obtain ⟨b, h1, h2⟩ := h
   rw [zdv.1 h1]; exact ⟨⟨b, rfl⟩, h2⟩
  case int k =>
   have h : zcf (zzjx k v) fun n => wpT C.base W J (K (.int k n)) t Q := h
   rw [zfd] at h; obtain ⟨b, h1, h2⟩ := h
   unfold zzjx at h1; simp only [zad, zae] at h1; obtain ⟨p, h3, h4, h5⟩ := h1
   cases h5; rw [zc5.1 h3, zev.1 h4]; exact ⟨⟨_, rfl⟩, h2⟩
  case string =>
   have h : zcf v.asStr fun n => wpT C.base W J (K (.str n)) t Q := h
   rw [zfd] at h; obtain ⟨b, h1, h2⟩ := h
   rw [zdp.1 h1]; exact ⟨⟨b, rfl⟩, h2⟩
  all_goals first
   | exact ⟨trivial, agg _ h⟩
   | exact ⟨trivial, h⟩
theorem zme {g lt : Bool} {v : zab} {K : zab -> Bool -> T} (h : wpT C.base W J (ztt g lt v K) t Q) : ∃ lt', wpT C.base W J (K v lt') t Q := by
 unfold ztt at h
 cases g with
 | false => exact ⟨lt, h⟩
 | true =>
  cases lt with
  | true => exact ⟨true, h⟩
  | false =>
   simp only [cond_true, cond_false] at h; rw [zbg] at h; obtain ⟨b, h1, h2⟩ := h
   rw [zdv.1 h1]; have h2 : if b = true then wpT C.base W J (K (.bool true) true) t Q else wpT C.base W J (K (.bool false) true) t Q := h2
   cases b with
   | true => exact ⟨true, h2⟩
   | false => exact ⟨true, h2⟩
theorem zqk (h : zde C.base X0 kf ν X st tm HA t) {g : Option (Nat × Bool)} {all : Array Oper} {w : Bool} (hw : zbb g all st.tm = some w) : zbb g all tm = some w := by
 unfold zbb z7t at hw ⊢
 cases g with
 | none => exact hw
 | some jw =>
  simp only [zxc] at hw ⊢
  rw [zad] at hw ⊢
  obtain ⟨d, h1, hw⟩ := hw
  refine ⟨d, h1, ?_⟩
  rw [zad] at hw ⊢
  obtain ⟨v, h2, hw⟩ := hw
  exact ⟨v, h.tms _ _ h2, hw⟩
def SK (C : Ctx) (W J : zhn) (X0 : Xt) (kf : Nat) (Q : zao) (κ : KT) (m : Tm -> zaf -> zbs) : Prop := ∀ st tm HA t X ν, zde C.base X0 kf ν X st tm HA t -> wpT C.base W J (κ st) t Q -> Res C.base X0 Q (m tm HA)
theorem Res.norm {ty : Nat} {v : zab} {K : zab -> zbs} (hf : zzfu C ty v) (h : Res C.base X0 Q (K v)) : Res C.base X0 Q (zh9 C ty v K) := by
 obtain ⟨u, t', HA', X', h1, h2⟩ := h
 exact ⟨u, t', HA', X', zcg.2 ⟨hf, h1⟩, h2⟩
theorem Res.ob {α : Type} {x : Option α} {a : α} {K : α -> zbs} (hx : x = some a) (h : Res C.base X0 Q (K a)) : Res C.base X0 Q (Am.ob x K) := by subst hx; exact h
theorem z89 (hW : zkf C A W) {e eA : Env} {ae : zw7} (he : zos e eA) (ha : zot ν ae eA) (hst : zde C.base X0 kf ν X st tm HA t) {la : List Nat} {all : Array Oper} {o : Oper} {κ : KT} {m : Tm -> zaf -> zbs}
  (hκ : ∀ st' tm' HA' t' X' ν', (la = [] -> ν' = ν) -> zde C.base X0 kf ν' X' st' tm' HA' t' -> (∃ v, tm' = putA n tm o.dst v) -> wpT C.base W J (κ st') t' Q -> Res C.base X0 Q (m tm' HA'))
  (h : wpT C.base W J (tH C la o.dst o.op e ae st.lo (kop C all n o e st κ) (klo C n o st κ)) t Q) :
  Res C.base X0 Q (zjr (fnV C A) ((aop o.op).f C eA HA) HA fun v H' => zh9 C o.type v fun v => m (putA n tm o.dst v) H') := by
 refine tH_ok hW he ha hst.ov hst.lo h ?_ ?_ ?_ ?_ ?_
 ·intro v t' HA' X' ho hx hk
  have hk : wpT C.base W J (z8m C o.type v fun v => ztt (zwe all.toList o.dst all.toList) (zzex o.op e st.lit) v fun v lt => z21 n o.dst v lt st κ) t' Q := hk
  obtain ⟨h1, h2⟩ := z22 hk
  obtain ⟨lt', h3⟩ := zme h2
  obtain ⟨st', h4, h5⟩ := (hst.later ho hx).put h3
  exact Res.norm h1 (hκ _ _ _ _ _ _ (fun _ => rfl) h4 ⟨v, rfl⟩ h5)
 ·intro v t' HA' X' ho hx hk
  obtain ⟨h1, h2⟩ := zf8.1 hk
  obtain ⟨lt', h3⟩ := zme h2
  obtain ⟨st', h4, h5⟩ := (hst.later ho hx).put h3
  exact Res.norm (zp7 h1) (hκ _ _ _ _ _ _ (fun _ => rfl) h4 ⟨v, rfl⟩ h5)
 ·intro d off hk
  obtain ⟨h1, h2⟩ := zf8.1 hk
  obtain ⟨st', h4, h5⟩ := hst.putA h2
  exact Res.norm (zwl h1) (hκ _ _ _ _ _ _ (fun _ => rfl) h4 ⟨_, rfl⟩ h5)
 ·intro d l hd hk
  obtain ⟨h1, h2⟩ := zf8.1 hk
  obtain ⟨st', ν', X', h4, h5⟩ := hst.new h2
  have e := zzar hd
  rw [e]; refine Res.norm (zwl h1) (hκ _ _ _ _ _ _ (fun hl => ?_) h4 ⟨_, by rw [e]⟩ h5)
  rw [hl, e] at hd
  cases hd
 ·intro d l l' c' h1 h2 h3 hk
  obtain ⟨h4, h5⟩ := zf8.1 hk
  obtain ⟨X', h6⟩ := hst.setLo h1 h2 h3
  obtain ⟨st', h7, h8⟩ := h6.put h5
  exact Res.norm (zp7 h4) (hκ _ _ _ _ _ _ (fun _ => rfl) h7 ⟨_, rfl⟩ h8)
theorem zv7 (h : zde C.base X0 kf ν X st tm HA t) : zos (.now st.tm) (.now tm) /\ zot ν (.now st.ad) (.now tm) := ⟨h.tms, h.ads⟩
theorem zzio (hW : zkf C A W) {la : List Nat} {all : Array Oper} {κ : KT} {m : Tm -> zaf -> zbs} (hκ : SK C W J X0 kf Q κ m) : ∀ (l : List Oper), SK C W J X0 kf Q (tops C la all n κ l) (zw4 C (fnV C A) all n m l) := by
 intro l; induction l with
 | nil => exact hκ
 | cons o l ih =>
  intro st tm HA t X ν hst h; have h : wpT C.base W J (obT (zbb o.guard all st.tm) fun w => Bool.rec (motive := fun _ => T) (z21 n o.dst zbh false st (tops C la all n κ l))
   (tH C la o.dst o.op (.now st.tm) (.now st.ad) st.lo (kop C all n o (.now st.tm) st (tops C la all n κ l)) (klo C n o st (tops C la all n κ l))) w) t Q := h
  rw [zbg] at h; obtain ⟨w, h1, h2⟩ := h
  rw [zg7]; refine Res.ob (zqk hst h1) ?_
  cases w with
  | false =>
   rw [if_neg (by simp)]
   obtain ⟨st', h3, h4⟩ := hst.put h2
   exact ih _ _ _ _ _ _ h3 h4
  | true =>
   rw [if_pos rfl]; exact z89 hW (zv7 hst).1 (zv7 hst).2 hst (fun st' tm' HA' t' X' ν' _ hs _ hw => ih _ _ _ _ _ _ hs hw) h2
end
end Go.Am
namespace Go.Am
open Go Go.RowKit
structure zu8 (ν : Nat -> Nat) (old : TSt) (oldA : Tm) : Prop where
 tms : ∀ i v, old.tm.get i = some v -> oldA.get i = some v
 ads : ∀ i p, zge i old.ad = some p -> oldA.get i = some (.ptr (ν p.1) p.2)
theorem zde.old {base : Nat} {X0 X : Xt} {kf : Nat} {ν : Nat -> Nat} {st : TSt} {tm : Tm} {HA : zaf} {t : Tr zak} (h : zde base X0 kf ν X st tm HA t) : zu8 ν st tm := ⟨h.tms, h.ads⟩
theorem Tm.get_cut {tm : Tm} {i : Nat} : tm.cut.get i = if i < tm.k then tm.get i else none := by
 unfold Tm.cut Tm.get; simp only [zns]; by_cases h : Nat.blt i tm.k = true
 ·rw [if_pos h, if_pos h, if_pos (zc8.1 h)]
 ·rw [if_neg h, if_neg (fun e => h (zc8.2 e))]; rfl
theorem zzc6 {k i : Nat} : ∀ {l : List (Nat × Nat × Nat)}, zge i (Env.adCut k l) = if i < k then zge i l else none := by
 intro l; induction l with
 | nil => show none = _; split <;> rfl
 | cons a l ih =>
  unfold Env.adCut at ih ⊢
  rw [List.filter_cons]; split
  ·rename_i ha
   have ha := zc8.1 ha
   rw [ze6, ih, ze6]; split
   ·rename_i e; rw [if_pos (by omega)]
   ·rfl
  ·rename_i ha
   rw [ih, ze6]; split
   ·rename_i hi
    rw [if_neg]; intro e; exact ha (zc8.2 (by omega))
   ·rfl
section
variable {W J : zhn} {t : Tr zak} {X X0 : Xt} {HA : zaf} {C : Ctx} {A : Tr zcc} {ν : Nat -> Nat} {Q : zao} {kf n : Nat} {st old : TSt} {tm oldA : Tm} {all : Array Oper} {olds : List (Nat × List Nat)}
theorem zde.cut (h : zde C.base X0 kf ν X st tm HA t) : zde C.base X0 kf ν X st.cut tm.cut HA t := by
 refine ⟨h.ov, h.le, h.k, h.kA, ?_, ?_, h.lo, h.inj⟩
 ·intro i v hi
  have hi : st.tm.cut.get i = some v := hi
  rw [Tm.get_cut] at hi ⊢
  split at hi
  ·rename_i e; rw [if_pos (by rw [h.kA, <- h.k]; exact e)]; exact h.tms i v hi
  ·cases hi
 ·intro i p hi
  have hi : zge i (Env.adCut st.tm.k st.ad) = some p := hi
  rw [zzc6] at hi; rw [Tm.get_cut]; split at hi
  ·rename_i e; rw [if_pos (by rw [h.kA, <- h.k]; exact e)]; exact h.ads i p hi
  ·cases hi
theorem zlz (h : zde C.base X0 kf ν X st tm HA t) (ho : zu8 ν old oldA) {os : List Nat} {op : Op} : zos (z1g st old os op) (.mixed tm oldA os (zbt op)) /\ zot ν (zzes st old os op) (.mixed tm oldA os (zbt op)) := by
 constructor
 ·intro i v hi
  have hi : (bif zck i (zbt op) then Tm.get (bif zck i os then old.tm else st.tm) i else none) = some v := hi
  show (bif zck i (zbt op) then Tm.get (bif zck i os then oldA else tm) i else none) = some v
  cases hm : zck i (zbt op) with
  | false => rw [hm] at hi; cases hi
  | true =>
   rw [hm] at hi; simp only [cond_true] at hi ⊢
   cases hq : zck i os with
   | true => rw [hq] at hi; exact ho.tms i v hi
   | false => rw [hq] at hi; exact h.tms i v hi
 ·intro i p hi
  have hi : (bif zck i (zbt op) then zge i (bif zck i os then old.ad else st.ad) else none) = some p := hi
  show (bif zck i (zbt op) then Tm.get (bif zck i os then oldA else tm) i else none) = _
  cases hm : zck i (zbt op) with
  | false => rw [hm] at hi; cases hi
  | true =>
   rw [hm] at hi; simp only [cond_true] at hi ⊢
   cases hq : zck i os with
   | true => rw [hq] at hi; exact ho.ads i p hi
   | false => rw [hq] at hi; exact h.ads i p hi
theorem znx (ho : zu8 ν old oldA) {κ : KT} {kd : Tm -> zbs} (hκ : ∀ st' tm', zde C.base X0 kf ν X st' tm' HA t -> wpT C.base W J (κ st') t Q -> Res C.base X0 Q (kd tm')) :
  ∀ (l : List Nat) (st : TSt) (tm : Tm), zde C.base X0 kf ν X st tm HA t -> wpT C.base W J (zft C all n old olds κ l st) t Q -> Res C.base X0 Q (zb6 C HA all n oldA olds kd l tm) := by
 intro l; induction l with
 | nil => exact hκ
 | cons i l ih =>
  intro st tm hst h; have h : wpT C.base W J (obT (zd8 all.toList i) fun o => obT (zbb o.guard all st.tm) fun w => Bool.rec (motive := fun _ => T) (z21 n o.dst zbh false st (zft C all n old olds κ l))
   (tL C o.op (z1g st old (zcq i olds) o.op) (zzes st old (zcq i olds) o.op) st.lo (kop C all n o (z1g st old (zcq i olds) o.op) st (zft C all n old olds κ l))) w) t Q := h
  rw [zbg] at h; obtain ⟨o, h0, h⟩ := h
  rw [zbg] at h; obtain ⟨w, h1, h2⟩ := h
  rw [zhy]; refine Res.ob h0 (Res.ob (zqk hst h1) ?_)
  cases w with
  | false =>
   rw [if_neg (by simp)]
   obtain ⟨st', h3, h4⟩ := hst.put h2
   exact ih _ _ h3 h4
  | true =>
   rw [if_pos rfl]; refine Exists.elim (zzis (R := fun v => Res C.base X0 Q (zh9 C o.type v fun v => zb6 C HA all n oldA olds kd l (putA n tm o.dst v))) (zlz hst ho).1 (zlz hst ho).2 hst.ov hst.lo h2 ?_ ?_ ?_) (fun v h => Res.ob h.1 h.2)
   ·intro v hk
    have hk : wpT C.base W J (z8m C o.type v fun v => ztt (zwe all.toList o.dst all.toList) (zzex o.op (z1g st old (zcq i olds) o.op) st.lit) v fun v lt => z21 n o.dst v lt st (zft C all n old olds κ l)) t Q := hk
    obtain ⟨g1, g2⟩ := z22 hk
    obtain ⟨lt', g3⟩ := zme g2
    obtain ⟨st', g4, g5⟩ := hst.put g3
    exact Res.norm g1 (ih _ _ g4 g5)
   ·intro v hk
    obtain ⟨g1, g2⟩ := zf8.1 hk
    obtain ⟨lt', g3⟩ := zme g2
    obtain ⟨st', g4, g5⟩ := hst.put g3
    exact Res.norm (zp7 g1) (ih _ _ g4 g5)
   ·intro d off hk
    obtain ⟨g1, g2⟩ := zf8.1 hk
    obtain ⟨st', g4, g5⟩ := hst.putA g2
    exact Res.norm (zwl g1) (ih _ _ g4 g5)
theorem z8l (ho : zu8 ν old oldA) (hst : zde C.base X0 kf ν X st tm HA t) {k : T} {kd : zbs} (hk : wpT C.base W J k t Q -> Res C.base X0 Q kd) :
  ∀ (l : List Nat), wpT C.base W J (zk8 C all old olds st k l) t Q -> Res C.base X0 Q (ze5 C HA all oldA olds tm kd l) := by
 intro l; induction l with
 | nil => exact hk
 | cons i l ih =>
  intro h; have h : wpT C.base W J (obT (zd8 all.toList i) fun o => obT o.dst fun d => obT (zbb o.guard all st.tm) fun w => Bool.rec (motive := fun _ => T) (zk8 C all old olds st k l)
   (obT (st.tm.get d) fun u => gdT (fitB C o.type u) (tL C o.op (z1g st old (zcq i olds) o.op) (zzes st old (zcq i olds) o.op) st.lo ⟨fun v => .ite (same 10 v u) (zk8 C all old olds st k l) .fail, fun v => .ite (same 10 v u) (zk8 C all old olds st k l) .fail, fun _ _ => .fail⟩)) w) t Q := h
  rw [zbg] at h; obtain ⟨o, h0, h⟩ := h
  rw [zbg] at h; obtain ⟨d, h1, h⟩ := h
  rw [zbg] at h; obtain ⟨w, h2, h⟩ := h
  rw [zl6]; refine Res.ob h0 (Res.ob h1 (Res.ob (zqk hst h2) ?_))
  cases w with
  | false => rw [if_neg (by simp)]; exact ih h
  | true =>
   rw [if_pos rfl]; simp only [zbg, zf8] at h; obtain ⟨u, h3, h4, h5⟩ := h
   have fin : ∀ v, wpT C.base W J (.ite (same 10 v u) (zk8 C all old olds st k l) .fail) t Q -> Res C.base X0 Q (zh9 C o.type v fun v => ob (tm.get d) fun u => zaj (same 10 v u) (ze5 C HA all oldA olds tm kd l)) := by
    intro v hv; have hv : if same 10 v u = true then wpT C.base W J (zk8 C all old olds st k l) t Q else False := hv
    split at hv
    ·rename_i hs
     refine Res.norm ?_ (Res.ob (hst.tms _ _ h3) ?_)
     ·rw [z0u _ _ _ hs]; exact zp7 h4
     ·rw [hs]; exact ih hv
    ·exact hv.elim
   obtain ⟨v, h6, h7⟩ := zzis (R := fun v => Res C.base X0 Q (zh9 C o.type v fun v => ob (tm.get d) fun u => zaj (same 10 v u) (ze5 C HA all oldA olds tm kd l))) (zlz hst ho).1 (zlz hst ho).2 hst.ov hst.lo h5 fin fin (fun _ _ h => h.elim)
   exact Res.ob h6 h7
theorem zzdk (hst : zde C.base X0 kf ν X st tm HA t) {h : Nat} {o : Oper} {w : Bool} (hw : zg0 C all h o st.tm = some w) : zg0 C all h o tm = some w := by
 unfold zg0 at hw ⊢
 rw [zad] at hw ⊢
 obtain ⟨u, h1, h2⟩ := hw
 exact ⟨u, zqk hst h1, h2⟩
theorem z6u {e e' : Env} (he : zos e e') {op : Op} {ef : Eff} (h : zsh op e = some ef) : zsh op e' = some ef := by
 cases op <;> first | (cases h; done) | skip
 case store t a x =>
  simp only [zsh, zad] at h ⊢
  obtain ⟨a, h1, v, h2, h⟩ := h
  exact ⟨a, zas he h1, v, zas he h2, h⟩
 case mapUpdate t m k x =>
  simp only [zsh, zad] at h ⊢
  obtain ⟨a, h1, v, h2, u, h3, h⟩ := h
  exact ⟨a, zas he h1, v, zas he h2, u, zas he h3, h⟩
 case insert t m k x =>
  simp only [zsh, zad] at h ⊢
  obtain ⟨a, h1, v, h2, u, h3, h⟩ := h
  exact ⟨a, zas he h1, v, zas he h2, u, zas he h3, h⟩
theorem zzit {op : Op} {e : Env} {ae : zw7} {ef : Eff} (h : tEff op e ae = some ef) : zsh op e = some ef := by
 cases op <;> first | exact h | skip
 case store t a x =>
  unfold tEff at h; simp only [] at h; split at h
  ·cases h
  ·exact h
theorem zzdu (hst : zde C.base X0 kf ν X st tm HA t) (ho : zu8 ν old oldA) {l : List Nat} {es : List Eff} (h : zzdv all old olds st l = some es) : z6t all oldA olds tm l = some es := by
 refine zko l (fun i ef h => ?_) h
 unfold ztk; simp only [zad, zae] at h ⊢
 obtain ⟨o, h1, w, h2, h3, h4⟩ := h
 exact ⟨o, h1, w, zqk hst h2, h3, z6u (zlz hst ho).1 (zzit h4)⟩
theorem z5b (hW : zkf C A W) (ho : zu8 ν old oldA) {κ : KT} {m : Tm -> zaf -> zbs} (hκ : SK C W J X0 kf Q κ m) :
  ∀ (l : List zcz) (st : TSt) (tm : Tm) (HA : zaf) (t : Tr zak) (X : Xt), zde C.base X0 kf ν X st tm HA t -> wpT C.base W J (zj0 C all n old olds κ l st) t Q -> Res C.base X0 Q (zca C (fnV C A) all n oldA olds m l tm HA) := by
 intro l; induction l with
 | nil => intro st tm HA t X hst h; exact hκ _ _ _ _ _ _ hst h
 | cons s l ih =>
  intro st tm HA t X hst h
  cases hg : zgg all s with
  | true =>
   have h : wpT C.base W J (Bool.rec (motive := fun _ => T) _ (gdT (zle C all) (obT (zzdv all old olds st s.again) fun es => .heavy (zts C es) fun _ => zft C all n old olds (zj0 C all n old olds κ l) s.lights st)) (zgg all s)) t Q := h
   rw [hg] at h; have h : wpT C.base W J (gdT (zle C all) (obT (zzdv all old olds st s.again) fun es => .heavy (zts C es) fun _ => zft C all n old olds (zj0 C all n old olds κ l) s.lights st)) t Q := h
   rw [zf8] at h; obtain ⟨h0, h⟩ := h
   rw [zbg] at h; obtain ⟨es, h1, h⟩ := h
   have h := h HA.next hst.ov.nextT hst.ov.base
   rw [zfd] at h; obtain ⟨⟨v, H'⟩, h2, h3⟩ := h
   obtain ⟨HA', h4, h5⟩ := z71 _ _ _ _ _ hst.ov h2
   have h6 : zm3 C es HA = some HA' := by
    unfold zts at h4; rw [zad] at h4; obtain ⟨y, g1, g2⟩ := h4
    cases g2
    exact g1
   rw [ze9 hg]; unfold zy0; rw [h0]; show Res C.base X0 Q (ob (z6t all oldA olds tm s.again) fun es => ob (zm3 C es HA) fun H' => zb6 C H' all n oldA olds (fun tm => zca C (fnV C A) all n oldA olds m l tm H') s.lights tm)
   refine Res.ob (zzdu hst ho h1) (Res.ob h6 ?_)
   exact znx ho (fun st' tm' hs hw => ih _ _ _ _ _ hs hw) _ _ _ (hst.later h5 (XLe.refl _)) h3
  | false =>
  have h : wpT C.base W J (Bool.rec (motive := fun _ => T) (obT (zd8 all.toList (hvI all s.heavy)) fun o => obT (zg0 C all s.heavy o st.tm) fun w =>
   (fun cont : KT => Bool.rec (motive := fun _ => T) (z21 n o.dst zbh false st cont)
    (tH C [] o.dst o.op (z1g st old (zcq (hvI all s.heavy) olds) o.op) (zzes st old (zcq (hvI all s.heavy) olds) o.op) st.lo (kop C all n o (z1g st old (zcq (hvI all s.heavy) olds) o.op) st cont) (klo C n o st cont)) w)
   (fun st' => zk8 C all old olds st' (zft C all n old olds (zj0 C all n old olds κ l) s.lights st') s.again)) _ (zgg all s)) t Q := h
  rw [hg] at h; have h : wpT C.base W J (obT (zd8 all.toList (hvI all s.heavy)) fun o => obT (zg0 C all s.heavy o st.tm) fun w =>
   (fun cont : KT => Bool.rec (motive := fun _ => T) (z21 n o.dst zbh false st cont)
    (tH C [] o.dst o.op (z1g st old (zcq (hvI all s.heavy) olds) o.op) (zzes st old (zcq (hvI all s.heavy) olds) o.op) st.lo (kop C all n o (z1g st old (zcq (hvI all s.heavy) olds) o.op) st cont) (klo C n o st cont)) w)
   (fun st' => zk8 C all old olds st' (zft C all n old olds (zj0 C all n old olds κ l) s.lights st') s.again)) t Q := h
  rw [zbg] at h; obtain ⟨o, h0, h⟩ := h
  rw [zbg] at h; obtain ⟨w, h1, h2⟩ := h
  rw [ze2 hg]; refine Res.ob h0 (Res.ob (zzdk hst h1) ?_)
  have fin : ∀ st' tm' HA' t' X' ν', ν' = ν -> zde C.base X0 kf ν' X' st' tm' HA' t' -> wpT C.base W J (zk8 C all old olds st' (zft C all n old olds (zj0 C all n old olds κ l) s.lights st') s.again) t' Q →
    Res C.base X0 Q (ze5 C HA' all oldA olds tm' (zb6 C HA' all n oldA olds (fun tm => zca C (fnV C A) all n oldA olds m l tm HA') s.lights tm') s.again) := by
   intro st' tm' HA' t' X' ν' e hs hw; subst e; exact z8l ho hs (fun hl => znx ho (fun st2 tm2 hs2 hw2 => ih _ _ _ _ _ hs2 hw2) _ _ _ hs hl) _ hw
  cases w with
  | false =>
   simp only [yar, if_false]; obtain ⟨st', h3, h4⟩ := hst.put h2
   exact fin _ _ _ _ _ _ rfl h3 h4
  | true =>
   simp only [if_true]; exact z89 (m := fun tm' HA' => ze5 C HA' all oldA olds tm' (zb6 C HA' all n oldA olds (fun tm => zca C (fnV C A) all n oldA olds m l tm HA') s.lights tm') s.again)
    hW (zlz hst ho).1 (zlz hst ho).2 hst (fun st' tm' HA' t' X' ν' hn hs _ hw => fin _ _ _ _ _ _ (hn rfl) hs hw) h2
theorem z5d (hW : zkf C A W) {la : List Nat} {fn id : Nat} {d : Bool} {κ : KT} {m : Tm -> zaf -> zbs} (hκ : SK C W J X0 kf Q κ m) : SK C W J X0 kf Q (z8e C la fn n κ id all d) (zn1 C (fnV C A) fn n m id all d) := by
 intro st tm HA t X ν hst h
 cases d with
 | false => exact zzio hW hκ _ _ _ _ _ _ _ hst.cut h
 | true =>
  have h : wpT C.base W J (obT (ob (C.plans.get fn) fun t => t.get id) fun p => gdT (zjt all p) (zft C all n st.cut p.olds (zj0 C all n st.cut p.olds κ p.stages) p.first st.cut)) t Q := h
  simp only [zbg, zf8] at h; obtain ⟨p, h1, h2, h3⟩ := h
  show Res C.base X0 Q (ob (ob (C.plans.get fn) fun t => t.get id) fun p => zaj (zjt all p) (zb6 C HA all n tm.cut p.olds (fun tm' => zca C (fnV C A) all n tm.cut p.olds m p.stages tm' HA) p.first tm.cut))
  refine Res.ob h1 ?_
  rw [h2]; exact znx hst.cut.old (fun st' tm' hs hw => z5b hW hst.cut.old hκ _ _ _ _ _ _ hs hw) _ _ _ hst.cut h3
end
structure PtD where
 p : PI
 m : Tm -> zaf -> zbs
def zd2 (C : Ctx) (φ : Ora) (fn n : Nat) : zcc -> Kt -> List PtD
 | .skip, _ => []
 | .region _ _ _, _ => []
 | .seq a b, κ => zd2 C φ fn n a ⟨den C φ fn n b κ, κ.exit, κ.ret⟩ ++ zd2 C φ fn n b κ
 | .cond _ x y, κ => zd2 C φ fn n x κ ++ zd2 C φ fn n y κ
 | .block id c, κ => zd2 C φ fn n c ⟨κ.norm, fun i tm H => Bool.rec (motive := fun _ => zbs) (κ.exit i tm H) (κ.norm tm H) (Nat.beq id i), κ.ret⟩
 | .loop p c, κ => ⟨p, den C φ fn n (.loop p c) κ⟩ :: zd2 C φ fn n c ⟨den C φ fn n (.loop p c) κ, κ.exit, κ.ret⟩
 | .exit _, _ => []
 | .ret, _ => []
 | .cut p c, κ => ⟨p, den C φ fn n (.cut p c) κ⟩ :: zd2 C φ fn n c κ
 | .range i pl fo ps id ops c, _ => ⟨⟨i, ze3 pl ps.toList, []⟩, zzgb C φ fn n ⟨i, pl, fo, ps, id, ops, c⟩⟩ :: zd2 C φ fn n c rdK
def zzgp (base kf : Nat) (d : PtD) (vals : List zab) (t : Tr zak) (Q : zao) : Prop := ∀ X0 X HA tm ν, zde base X0 kf ν X (z7k kf d.p vals) tm HA t -> Res base X0 Q (d.m tm HA)
def JOk (base kf : Nat) (J : zhn) (l : List PtD) : Prop := ∀ d ∈ l, ∀ vals t Q, J d.p.id vals t Q -> zzgp base kf d vals t Q
structure SKt (C : Ctx) (W J : zhn) (X0 : Xt) (kf : Nat) (Q : zao) (κ : KtT) (m : Kt) : Prop where
 norm : SK C W J X0 kf Q κ.norm m.norm
 exit : ∀ i, SK C W J X0 kf Q (κ.exit i) (m.exit i)
 ret : SK C W J X0 kf Q κ.ret m.ret
theorem zvm {d : Nat} {l : List zab} {st : TSt} : ∀ {ll : List (Nat × Nat)} {b rest : List zab}, ztq st ll = some b -> (zzdh ll (b ++ rest)).get d = some l -> st.lo.get d = some l := by
 intro ll; induction ll with
 | nil => intro b rest _ h; rw [show zzdh [] (b ++ rest) = .leaf from rfl, Tr.get_leaf] at h; cases h
 | cons p ll ih =>
  intro b rest hb h; have hb : (ob (zge p.1 st.ad) fun a => zaj (Nat.beq a.1 p.1 && Nat.beq a.2 0) (ob (st.lo.get p.1) fun l => zaj (Nat.beq (zbw l) p.2) (ob (ztq st ll) fun r => some (ze3 l r)))) = some b := hb
  simp only [zad, zae] at hb; obtain ⟨a, _, _, l0, h2, h3, r, h4, h5⟩ := hb
  cases h5; have h : ((zzdh ll (zmu (ze3 l0 r ++ rest) p.2)).set p.1 (zth (ze3 l0 r ++ rest) p.2)).get d = some l := h
  rw [zcy, za1] at h3; rw [zb7, zf4, zff, <- h3, yba, List.drop_left, List.take_left, Tr.get_set] at h; split at h
  ·rename_i e; cases h; rw [e]; exact h2
  ·exact ih h4 h
theorem zzd2 {i : Nat} {q : Nat × Nat} {st : TSt} : ∀ {ll : List (Nat × Nat)} {b : List zab}, ztq st ll = some b -> zge i (stAd ll) = some q -> zge i st.ad = some q := by
 intro ll; induction ll with
 | nil => intro b _ h; cases h
 | cons p ll ih =>
  intro b hb h; have hb : (ob (zge p.1 st.ad) fun a => zaj (Nat.beq a.1 p.1 && Nat.beq a.2 0) (ob (st.lo.get p.1) fun l => zaj (Nat.beq (zbw l) p.2) (ob (ztq st ll) fun r => some (ze3 l r)))) = some b := hb
  simp only [zad, zae, yac, zcy] at hb; obtain ⟨a, h1, ⟨h2, h3⟩, l0, _, _, r, h4, _⟩ := hb
  have h : zge i ((p.1, p.1, 0) :: stAd ll) = some q := h
  rw [ze6] at h; split at h
  ·rename_i e; cases h; rw [e]; show zge p.1 st.ad = some (p.1, 0); rw [h1, <- h2, <- h3]
  ·exact ih h4 h
theorem zzd0 {i : Nat} {v : zab} {st : TSt} : ∀ {pl : List Nat} {a rest : List zab}, zd4 (fun i => st.tm.get i) pl = some a -> (zzw pl (a ++ rest)).get i = some v -> st.tm.get i = some v := by
 intro pl; induction pl with
 | nil => intro a rest _ h; rw [show zzw [] (a ++ rest) = .leaf from rfl, Tr.get_leaf] at h; cases h
 | cons j pl ih =>
  intro a rest ha h; rw [zch, zad] at ha; obtain ⟨u, h1, ha⟩ := ha
  rw [zad] at ha; obtain ⟨r, h2, ha⟩ := ha
  cases ha; have h : ((zzw pl (r ++ rest)).set j u).get i = some v := h
  rw [Tr.get_set] at h; split at h
  ·rename_i e; cases h; rw [e]; exact h1
  ·exact ih h2 h
theorem Tm.get_kv {k i : Nat} {v : Tr zab} {u : zab} (h : Tm.get ⟨k, v, []⟩ i = some u) : i < k /\ v.get i = some u := by
 unfold Tm.get at h; rw [zns] at h; split at h
 ·rename_i e; exact ⟨zc8.1 e, h⟩
 ·cases h
theorem z42 {p : PI} {st : TSt} {vals : List zab} (h : ztp p st = some vals) : ∃ a b, vals = a ++ b /\ zd4 (fun i => st.tm.get i) p.pl = some a /\ ztq st p.ll = some b /\ a.length = p.pl.length := by
 unfold ztp at h; simp only [zad] at h; obtain ⟨a, h1, b, h2, h3⟩ := h
 cases h3; refine ⟨a, b, zb7 _ _, h1, h2, ?_⟩
 have : ∀ (l : List Nat) (r : List zab), zd4 (fun i => st.tm.get i) l = some r -> r.length = l.length := by
  intro l; induction l with
  | nil => intro r h; cases h; rfl
  | cons x l ih =>
   intro r h; rw [zch, zad] at h; obtain ⟨u, _, h⟩ := h
   rw [zad] at h; obtain ⟨s, h5, h⟩ := h
   cases h; simp [ih _ h5]
 exact this _ _ h1
section
variable {W J : zhn} {t : Tr zak} {X X0 : Xt} {HA : zaf} {C : Ctx} {A : Tr zcc} {ν : Nat -> Nat} {Q : zao} {kf n : Nat} {st : TSt} {tm : Tm}
theorem zde.at (h : zde C.base X0 kf ν X st tm HA t) {p : PI} {vals : List zab} (hv : ztp p st = some vals) : zde C.base X0 kf ν X (z7k kf p vals) tm HA t := by
 obtain ⟨a, b, rfl, h1, h2, h3⟩ := z42 hv
 have hd : zmu (a ++ b) (zbw p.pl) = b := by rw [zf4, za1, <- h3, List.drop_left]
 refine ⟨h.ov, h.le, rfl, h.kA, ?_, ?_, ?_, ?_⟩
 ·intro i v hi
  exact h.tms i v (zzd0 h1 (Tm.get_kv hi).2)
 ·intro i q hi
  exact h.ads i q (zzd2 h2 hi)
 ·intro d l hl
  have hl : (zzdh p.ll (zmu (a ++ b) (zbw p.pl))).get d = some l := hl
  rw [hd] at hl; have hb : (zzdh p.ll (b ++ [])).get d = some l := by rw [ybe]; exact hl
  exact h.lo d l (zvm h2 hb)
 ·intro d d' l l' hl hl' he
  have hl : (zzdh p.ll (zmu (a ++ b) (zbw p.pl))).get d = some l := hl
  have hl' : (zzdh p.ll (zmu (a ++ b) (zbw p.pl))).get d' = some l' := hl'
  rw [hd] at hl hl'
  have hb : (zzdh p.ll (b ++ [])).get d = some l := by rw [ybe]; exact hl
  have hb' : (zzdh p.ll (b ++ [])).get d' = some l' := by rw [ybe]; exact hl'
  exact h.inj d d' l l' (zvm h2 hb) (zvm h2 hb') he
theorem zza7 {tm : Tm} {i : Nat} {v : zab} (hv : tm.get i = some v) : ∀ {live : List Nat}, i ∈ live -> (zyv tm live).get i = some v := by
 intro live; induction live with
 | nil => intro h; cases h
 | cons j live ih =>
  intro h; show (match tm.get j with | some v => (zyv tm live).set j v | none => zyv tm live : Tr zab).get i = some v
  by_cases e : i = j
  ·subst e; rw [hv]; simp only []; rw [Tr.get_set, if_pos rfl]
  ·have := ih ((yat.1 h).resolve_left e)
   cases tm.get j with
   | none => exact this
   | some u => simp only []; rw [Tr.get_set, if_neg e]; exact this
theorem zzdz {i : Nat} {v : zab} : ∀ {pl : List Nat} {vals : List zab}, (zzw pl vals).get i = some v -> i ∈ pl := by
 intro pl; induction pl with
 | nil => intro vals h; rw [show zzw [] vals = .leaf from rfl, Tr.get_leaf] at h; cases h
 | cons j pl ih =>
  intro vals h
  cases vals with
  | nil => rw [show zzw (j :: pl) [] = .leaf from rfl, Tr.get_leaf] at h; cases h
  | cons u vals =>
   have h : ((zzw pl vals).set j u).get i = some v := h
   rw [Tr.get_set] at h; split at h
   ·rename_i e; rw [e]; exact yaz
   ·exact yas _ (ih h)
theorem zzd1 {i : Nat} {q : Nat × Nat} : ∀ {ll : List (Nat × Nat)}, zge i (stAd ll) = some q -> i ∈ (List.rec (motive := fun _ => List Nat) [] (fun a _ r => a.1 :: r) ll : List Nat) := by
 intro ll; induction ll with
 | nil => intro h; cases h
 | cons p ll ih =>
  intro h; have h : zge i ((p.1, p.1, 0) :: stAd ll) = some q := h
  rw [ze6] at h; split at h
  ·rename_i e; rw [e]; exact yaz
  ·exact yas _ (ih h)
theorem zde.keep {p : PI} {vals : List zab} (hb : ∀ i, i ∈ p.kept -> i < kf) (h : zde C.base X0 kf ν X (z7k kf p vals) tm HA t) : zde C.base X0 kf ν X (z7k kf p vals) (Am.keep p.kept tm) HA t := by
 have key : ∀ i v, i ∈ p.kept -> tm.get i = some v -> (Am.keep p.kept tm).get i = some v := by
  intro i v hi hv; unfold Am.keep Tm.get; rw [zns, if_pos (zc8.2 (by rw [h.kA]; exact hb i hi))]
  exact zza7 hv hi
 refine ⟨h.ov, h.le, rfl, h.kA, ?_, ?_, h.lo, h.inj⟩
 ·intro i v hi
  refine key i v ?_ (h.tms i v hi)
  unfold PI.kept; rw [zb7]; exact ycd _ (zzdz (Tm.get_kv hi).2)
 ·intro i q hi
  refine key i _ ?_ (h.ads i q hi)
  unfold PI.kept; rw [zb7]; exact ybg _ (zzd1 hi)
theorem z1l {l : List PtD} (hJ : JOk C.base kf J l) {p : PI} {m : Tm -> zaf -> zbs} (hm : (⟨p, m⟩ : PtD) ∈ l) : SK C W J X0 kf Q (z6a p) m := by
 intro st tm HA t X ν hst h; unfold z6a at h; rw [zbg] at h; obtain ⟨vals, h1, h2⟩ := h
 exact hJ _ hm vals t Q h2 _ _ _ _ _ (hst.at h1)
theorem zzhd : SKt C W J X0 kf Q rdT rdK := ⟨fun _ tm HA t X _ hst h => ⟨_, t, HA, X, rfl, hst.ov, hst.le, h⟩, fun _ _ _ _ _ _ _ _ h => h.elim, fun _ tm HA t X _ hst h => ⟨_, t, HA, X, rfl, hst.ov, hst.le, h⟩⟩
def zzgm (C : Ctx) (A : Tr zcc) (W : zhn) : Prop := ∀ l args t Q, (∀ X HA, Ov C.base t X HA -> Res C.base X Q (z2a C A (yo + l) args HA)) -> W (yo + l) args t Q
def onX (X : Xt) (b : Nat) (y : zak) : Xt := fun c => if c = b then some y else X c
theorem zye {X : Xt} {b : Nat} {y : zak} (h : X b = none) : XLe X (onX X b y) := by
 intro c z hc; unfold onX; rw [if_neg (fun e => by rw [e, h] at hc; cases hc)]
 exact hc
theorem Ov.under {base : Nat} (h : Ov base t X HA) {b : Nat} {y : zak} (hb : t.get b = some y) (z : zak) : Ov base (t.del b) (onX X b z) (Am.setBlk HA b z) := by
 refine ⟨h.base, fun c hc => ?_, fun c u hc => ?_, fun c u hc => ?_⟩
 ·show (HA.t.set b z).get c = _
  unfold onX at hc; split at hc
  ·cases hc
  ·rename_i e; rw [Tr.get_set, if_neg e, Tr.get_del, if_neg e]; exact h.same c hc
 ·show (HA.t.set b z).get c = _ /\ _
  unfold onX at hc; split at hc
  ·rename_i e; cases hc; subst e; exact ⟨by rw [Tr.get_set, if_pos rfl], by rw [Tr.get_del, if_pos rfl], h.lt _ _ hb⟩
  ·rename_i e
   obtain ⟨g1, g2, g3⟩ := h.ext c u hc
   exact ⟨by rw [Tr.get_set, if_neg e]; exact g1, by rw [Tr.get_del, if_neg e]; exact g2, g3⟩
 ·rw [Tr.get_del] at hc
  split at hc
  ·cases hc
  ·exact h.lt _ _ hc
theorem Ov.back {base : Nat} (h : Ov base t X HA) {b : Nat} {y : zak} (hb : X b = some y) (z : zak) : Ov base (t.set b z) (fun c => if c = b then none else X c) (Am.setBlk HA b z) := by
 obtain ⟨g1, g2, g3⟩ := h.ext b y hb
 refine ⟨h.base, fun c hc => ?_, fun c u hc => ?_, fun c u hc => ?_⟩
 ·show (HA.t.set b z).get c = _
  rw [Tr.get_set, Tr.get_set]; split
  ·rfl
  ·rename_i e; rw [if_neg e] at hc; exact h.same c hc
 ·show (HA.t.set b z).get c = _ /\ _
  split at hc
  ·cases hc
  ·rename_i e
   obtain ⟨g1, g2, g3⟩ := h.ext c u hc
   exact ⟨by rw [Tr.get_set, if_neg e]; exact g1, by rw [Tr.get_set, if_neg e]; exact g2, g3⟩
 ·rw [Tr.get_set] at hc
  split at hc
  ·rename_i e; rw [e]; exact g3
  ·exact h.lt _ _ hc
theorem zrl {H : zaf} {l : Nat} {r : zk5} (hl : 256 <= l) (h : H.t.get l = some (.loop r)) : zd7 H l = some r := by
 unfold zd7; rw [h, zac, Nat.ble_eq_true_of_le hl]; rfl
theorem zzea {base kf n : Nat} {st : TSt} {tm : Tm} {i : Nat} {pl ps : List Nat} {vals args : List zab} {X : Xt} {HA : zaf} {t : Tr zak} (ho : Ov base t X HA) (hk : st.tm.k = kf) (hkA : tm.k = kf)
  (ht : ∀ i v, st.tm.get i = some v -> tm.get i = some v) (hv : zzg9 pl st = some vals) (hok : zd9 (fun p => Nat.blt p st.tm.k && Nat.blt p n && !zck p pl) ps = true) (h1 : ps.length <= 1) (hl : args.length = ps.length) :
  ∃ tm', zeg n ps args tm = some tm' /\ zde base X kf (fun i => i) X (z7k kf ⟨i, ze3 pl ps, []⟩ (vals ++ args)) tm' HA t := by
 have old : ∀ (pl : List Nat) (vals rest : List zab) j v, zd4 (fun i => st.tm.get i) pl = some vals -> (zzw (pl ++ ps) (vals ++ rest)).get j = some v -> (j ∈ pl /\ tm.get j = some v) \/ (zzw ps rest).get j = some v := by
  intro pl; induction pl with
  | nil => intro vals rest j v h hj; cases h; exact Or.inr hj
  | cons a pl ih =>
   intro vals rest j v h hj; rw [zch, zad] at h; obtain ⟨u, g1, h⟩ := h
   rw [zad] at h; obtain ⟨us, g2, h⟩ := h
   cases h; have hj : ((zzw (pl ++ ps) (us ++ rest)).set a u).get j = some v := hj
   rw [Tr.get_set] at hj; split at hj
   ·rename_i e; cases hj; rw [e]; exact Or.inl ⟨yaz, ht _ _ g1⟩
   ·rcases ih us rest j v g2 hj with ⟨a1, a2⟩ | a1
    ·exact Or.inl ⟨yas _ a1, a2⟩
    ·exact Or.inr a1
 cases ps with
 | nil =>
  cases args with
  | cons _ _ => cases hl
  | nil =>
   refine ⟨tm, rfl, ho, XLe.refl _, rfl, hkA, fun j v hj => ?_, fun j p h => (by cases h), fun d l h => ?_, fun d _ l _ h => ?_⟩
   ·have hj := (Tm.get_kv hj).2
    have hj : (zzw (ze3 pl []) (vals ++ [])).get j = some v := hj
    rw [zb7] at hj; rcases old pl vals [] j v hv hj with ⟨_, h⟩ | h
    ·exact h
    ·rw [show zzw [] [] = .leaf from rfl, Tr.get_leaf] at h; cases h
   ·rw [show (z7k kf ⟨i, ze3 pl [], []⟩ (vals ++ [])).lo = .leaf from rfl, Tr.get_leaf] at h; cases h
   ·rw [show (z7k kf ⟨i, ze3 pl [], []⟩ (vals ++ [])).lo = .leaf from rfl, Tr.get_leaf] at h; cases h
 | cons p ps =>
  cases ps with
  | cons _ _ => simp at h1
  | nil =>
   cases args with
   | nil => cases hl
   | cons a args =>
    cases args with
    | cons _ _ => simp at hl
    | nil =>
     have hp : (bif (Nat.blt p st.tm.k && Nat.blt p n && !zck p pl) then zd9 (fun p => Nat.blt p st.tm.k && Nat.blt p n && !zck p pl) [] else false) = true := hok
     cases hx : (Nat.blt p st.tm.k && Nat.blt p n && !zck p pl) with
     | false => rw [hx] at hp; cases hp
     | true =>
      simp only [yac, ybq] at hx; obtain ⟨⟨x1, x2⟩, x3⟩ := hx
      have x1 := zc8.1 x1
      have x2 := zc8.1 x2
      refine ⟨putA n tm (some p) a, rfl, ho, XLe.refl _, rfl, by rw [z3i]; exact hkA, fun j v hj => ?_, fun j p h => (by cases h), fun d l h => ?_, fun d _ l _ h => ?_⟩
      ·have hj := (Tm.get_kv hj).2
       have hj : (zzw (ze3 pl [p]) (vals ++ [a])).get j = some v := hj
       rw [zb7] at hj; rw [zby]; rcases old pl vals [a] j v hv hj with ⟨hm, h⟩ | h
       ·rw [if_neg]
        ·exact h
        ·rintro ⟨e, _⟩
         cases e
         rw [show zck p pl = true from (zd6 _ _).2 hm] at x3
         cases x3
       ·have h : ((zzw [] []).set p a).get j = some v := h
        rw [Tr.get_set] at h; split at h
        ·rename_i e; rw [if_pos ⟨by rw [e], by rw [e]; exact x2⟩]; exact h
        ·rw [show zzw [] [] = .leaf from rfl, Tr.get_leaf] at h; cases h
      ·rw [show (z7k kf ⟨i, ze3 pl [p], []⟩ (vals ++ [a])).lo = .leaf from rfl, Tr.get_leaf] at h; cases h
      ·rw [show (z7k kf ⟨i, ze3 pl [p], []⟩ (vals ++ [a])).lo = .leaf from rfl, Tr.get_leaf] at h; cases h
theorem z9l (hW : zkf C A W) (hY : zzgm C A W) {f : Nat} {κ : KtT} {m : Kt} (hκ : ∀ X0, SKt C W J X0 kf Q κ m) {i : Nat} {pl : List Nat} {fo : Operand} {ps : Array Nat} {id : Nat} {ops : Array Oper} {c : zcc}
  (hone : ∃ c0, A.get f = some c0 /\ zmp c0 = some ⟨i, pl, fo, ps, id, ops, c⟩) (hJ : ∀ vals t Q, J i vals t Q -> zzgp C.base kf ⟨⟨i, ze3 pl ps.toList, []⟩, zzgb C (fnV C A) f n ⟨i, pl, fo, ps, id, ops, c⟩⟩ vals t Q) :
  SK C W J X0 kf Q (z9m C n κ i pl fo ps.toList ops.toList c) (zhv C (fnV C A) f n m fo ps.toList (.region id ops false) (zdh c)) := by
 intro st tm HA t X ν hst h; unfold z9m at h; rw [zf8, zbg] at h; obtain ⟨hok, vals, hv, h⟩ := h
 rw [zbg] at h; obtain ⟨fv, hf, h256, h⟩ := h
 unfold z9n at hok; simp only [yac] at hok; obtain ⟨⟨⟨hok1, hok2⟩, hok3⟩, hok4⟩ := hok
 have hok2 : ps.toList.length <= 1 := by have := Nat.le_of_ble_eq_true hok2; rw [za1] at this; exact this
 have hok4 : zej c = [] := by
  cases hx : zej c with
  | nil => rfl
  | cons _ _ => rw [hx] at hok4; cases hok4
 have ho := hst.ov
 have hbase := ho.base
 generalize hr : (⟨.ready, none, f, n, tm, ps.toList, .region id ops false, zdh c, HA.next⟩ : zk5) = r at *
 have htn : t.get (HA.next + 1) = none := by
  cases hx : t.get (HA.next + 1) with
  | none => rfl
  | some y => exact absurd (ho.lt _ _ hx) (by omega)
 have hyield : ∀ args t1 Q1, args.length = zbw ps.toList -> t1.get (HA.next + 1) = some (.loop r) -> J i (vals ++ args) (t1.del (HA.next + 1)) (fun v t2 => t2.get (HA.next + 1) = none -> ∃ b, v = .bool b /\ Q1 v (t2.set (HA.next + 1) (.loop (zro b r)))) -> W (yo + (HA.next + 1)) args t1 Q1 := by
  intro args t1 Q1 hla ht1 hj; refine hY _ _ _ _ fun X1 HA1 ho1 => ?_
  rw [zzg, zzh3]; show Res C.base X1 Q1 (zq5 C A (fnV C A) (HA.next + 1) args HA1)
  have hx1 := ho1.notX ht1
  have hov := ho1.under ht1 (.loop (z2e r))
  obtain ⟨tm', hs1, hs2⟩ := zzea (n := n) (i := i) hov hst.k hst.kA hst.tms hv hok1 hok2 (by rw [hla, za1])
  obtain ⟨v, t2, HA2, X2, e1, e2, e3, e4⟩ := hJ _ _ _ hj _ _ _ _ _ hs2
  have hb2 : X2 (HA.next + 1) = some (.loop (z2e r)) := e3 _ _ (by unfold onX; rw [if_pos rfl])
  obtain ⟨b, e4, e5⟩ := e4 (e2.ext _ _ hb2).2.1
  subst e4; obtain ⟨c0, hc0, hc1⟩ := hone
  refine ⟨.bool b, _, _, _, zfw.2 ⟨r, tm', c0, ⟨i, pl, fo, ps, id, ops, c⟩, (.bool b, HA2), z2e r, b, zrl (by omega) (by rw [ho1.up ht1]), ?_, ?_, hc1, ?_, ?_, zrl (by omega) (e2.ext _ _ hb2).1, rfl, rfl⟩, e2.back hb2 _, ?_, e5⟩
  ·rw [<- hr]; exact hs1
  ·rw [<- hr]; exact hc0
  ·rw [<- hr]; exact ⟨rfl, rfl, rfl, rfl, hok3, hok4⟩
  ·rw [<- hr] at e1 ⊢; exact e1
  ·intro c y hc
   have hne : c ≠ HA.next + 1 := fun e => by rw [e, hx1] at hc; cases hc
   show (if c = HA.next + 1 then none else X2 c) = some y
   rw [if_neg hne]; exact e3 _ _ (zye hx1 _ _ hc)
 have h := h (HA.next + 1) r htn (by omega) (by rw [<- hr]) (by rw [<- hr]) hyield
 rw [zfd] at h; obtain ⟨⟨g, asx⟩, hra, hw⟩ := h
 unfold zik at hra; rw [zad] at hra; obtain ⟨⟨qf, q1, q2⟩, hq, hra⟩ := hra
 cases qf with
 | yld l => cases hra
 | func g' =>
  simp only [zae, yac] at hra; obtain ⟨⟨hg, hnp⟩, hra⟩ := hra
  cases hra; have hp : C.prims.get g = none := by
   unfold npC at hnp
   cases hx : C.prims.get g with
   | none => rfl
   | some u => rw [hx] at hnp; cases hnp
  have hXd : X HA.next = none := ho.nextX
  have ho1 : Ov C.base t (onX X HA.next (.deferred (some []))) (newBlk HA (.deferred (some []))) := by
   refine ⟨Nat.le_succ_of_le ho.base, fun b hb => ?_, fun b y hb => ?_, fun b y hb => Nat.lt_succ_of_lt (ho.lt _ _ hb)⟩
   ·unfold onX at hb
    split at hb
    ·cases hb
    ·rename_i e
     show (HA.t.set HA.next _).get b = _
     rw [Tr.get_set, if_neg e]; exact ho.same b hb
   ·unfold onX at hb
    show (HA.t.set HA.next _).get b = _ /\ _ /\ b < HA.next + 1
    split at hb
    ·rename_i e; cases hb; subst e; exact ⟨by rw [Tr.get_set, if_pos rfl], ho.nextT, Nat.lt_succ_self _⟩
    ·rename_i e
     obtain ⟨g1, g2, g3⟩ := ho.ext b y hb
     exact ⟨by rw [Tr.get_set, if_neg e]; exact g1, g2, Nat.lt_succ_of_lt g3⟩
  have ho2 := ho1.newBlk (.loop r)
  obtain ⟨v, t', HA2, X2, e1, e2, e3, e4⟩ := hW _ _ _ _ hw _ _ ho2
  rw [zkx hg, hp] at e1; have e1 : fnV C A (.func g) (ze3 q1 (.func (.yld (HA.next + 1)) [] [] :: q2)) (newBlk (newBlk HA (.deferred (some []))) (.loop r)) = some (v, HA2) := e1
  have goal : ∀ r' (κ' : KT) (m' : Tm -> zaf -> zbs), t'.get (HA.next + 1) = some (.loop r') -> (!Nat.beq (LoopState.tag r'.state) 1) = true -> (∀ tm H, zno m r'.pending tm H = m' tm H) -> (∀ X0, SK C W J X0 kf Q κ' m') -> wpT C.base W J (κ' st) (t'.del (HA.next + 1)) Q →
    Res C.base X0 Q (zhv C (fnV C A) f n m fo ps.toList (.region id ops false) (zdh c) tm HA) := by
   intro r' κ' m' k1 k2 k3 k4 k5; have ho3 := e2.under k1 (.loop ⟨.exhausted, r'.pending, r'.fn, r'.n, r'.tm, r'.params, r'.assign, r'.body, r'.defers⟩)
   have hx2 := e2.notX k1
   have hXX : XLe X (onX X2 (HA.next + 1) (.loop ⟨.exhausted, r'.pending, r'.fn, r'.n, r'.tm, r'.params, r'.assign, r'.body, r'.defers⟩)) := ((zye hXd).trans e3).trans (zye hx2)
   have hd3 : (onX X2 (HA.next + 1) (.loop ⟨.exhausted, r'.pending, r'.fn, r'.n, r'.tm, r'.params, r'.assign, r'.body, r'.defers⟩)) HA.next = some (.deferred (some [])) := by
    refine (zye hx2) _ _ (e3 _ _ ?_)
    unfold onX; rw [if_pos rfl]
   have hX0d : X0 HA.next = none := by
    cases hx : X0 HA.next with
    | none => rfl
    | some y => have := hst.le _ _ hx; rw [hXd] at this; cases this
   have hl := hst.later ho3 hXX
   have hl' : zde C.base (onX X0 HA.next (.deferred (some []))) kf ν (onX X2 (HA.next + 1) (.loop ⟨.exhausted, r'.pending, r'.fn, r'.n, r'.tm, r'.params, r'.assign, r'.body, r'.defers⟩)) st tm (endLoop HA2 (HA.next + 1) r') (t'.del (HA.next + 1)) := by
    refine ⟨hl.ov, ?_, hl.k, hl.kA, hl.tms, hl.ads, fun d l hd => ?_, hl.inj⟩
    ·intro b y hb
     unfold onX at hb; split at hb
     ·rename_i e; cases hb; rw [e]; exact hd3
     ·exact hl.le _ _ hb
    ·obtain ⟨g1, g2, g3⟩ := hl.lo d l hd
     refine ⟨?_, g2, g3⟩
     obtain ⟨c', g4, _⟩ := (hst.lo d l hd).2.2
     unfold onX; rw [if_neg (fun e => by rw [e, hXd] at g4; cases g4)]
     exact g1
   obtain ⟨w, t4, HA4, X4, f1, f2, f3, f4⟩ := k4 _ _ _ _ _ _ _ hl' k5
   have hd4 : X4 HA.next = some (.deferred (some [])) := f3 _ _ (by unfold onX; rw [if_pos rfl])
   refine ⟨w, t4, _, _, ?_, f2.setX hd4 (.deferred none), ?_, f4⟩
   ·unfold zhv
    rw [zas (zv7 hst).1 hf, zac, hq, zac]
    show (zaj (zcm (C.prims.get g)) _) = _
    rw [hp]; show (ob (fnV C A (.func g) _ (newBlk (newBlk HA (.deferred (some []))) (.loop ⟨.ready, none, f, n, tm, ps.toList, .region id ops false, zdh c, HA.next⟩))) _) = _
    rw [hr, e1, zac, zrl (by omega) (e2.up k1), zac, k2]
    show (ob (zno m r'.pending tm _) _) = _
    rw [k3]; show (ob (m' tm (endLoop HA2 (HA.next + 1) r')) _) = _
    rw [f1, zac]; have : zf6 HA4 HA.next = some (some []) := by
     unfold zf6; rw [(f2.ext _ _ hd4).1, zac, Nat.ble_eq_true_of_le (by omega : 256 <= HA.next)]
     rfl
    simp only [this, zac]; rfl
   ·intro b y hb
    have hne : b ≠ HA.next := fun e => by rw [e, hX0d] at hb; cases hb
    show (if b = HA.next then _ else X4 b) = some y
    rw [if_neg hne]; exact f3 _ _ (zye hX0d _ _ hb)
  rcases e4 with ⟨k1, k2⟩ | ⟨k1, k2⟩
  ·exact goal r κ.norm m.norm k1 (by rw [<- hr]; rfl) (fun _ _ => by rw [<- hr]; rfl) (fun X0 => (hκ X0).norm) k2
  ·exact goal _ κ.ret m.ret k1 (by rw [<- hr]; rfl) (fun _ _ => by rw [<- hr]; rfl) (fun X0 => (hκ X0).ret) k2
def ROk (A : Tr zcc) (f : Nat) (c : zcc) : Prop := ∀ q ∈ zej c, ∃ c0, A.get f = some c0 /\ zmp c0 = some q
theorem ROk.l {a b : List z2m} {P : z2m -> Prop} (h : ∀ q ∈ ze3 a b, P q) : (∀ q ∈ a, P q) /\ ∀ q ∈ b, P q := by
 rw [zb7] at h; exact ⟨fun q hq => h q (ycd _ hq), fun q hq => h q (ybg _ hq)⟩
theorem zqr (hW : zkf C A W) (hY : zzgm C A W) {la : List Nat} {f : Nat} : ∀ (c : zcc) (κ : KtT) (m : Kt), ROk A f c -> (∀ X0, SKt C W J X0 kf Q κ m) -> JOk C.base kf J (zd2 C (fnV C A) f n c m) -> ∀ X0, SK C W J X0 kf Q (z0i C la f n c κ) (den C (fnV C A) f n c m) := by
 intro c; induction c with
 | skip => intro κ m _ hκ _ X0; exact (hκ X0).norm
 | region id ops d => intro κ m _ hκ _ X0; exact z5d hW (hκ X0).norm
 | seq a b iha ihb =>
  intro κ m hR hκ hJ; exact iha ⟨z0i C la f n b κ, κ.exit, κ.ret⟩ ⟨den C (fnV C A) f n b m, m.exit, m.ret⟩ (ROk.l hR).1 (fun X0 => ⟨ihb κ m (ROk.l hR).2 hκ (fun d hd => hJ d (ybg _ hd)) X0, (hκ X0).exit, (hκ X0).ret⟩) fun d hd => hJ d (ycd _ hd)
 | cond x a b iha ihb =>
  intro κ m hR hκ hJ X0 st tm HA t X ν hst h; have ha := iha κ m (ROk.l hR).1 hκ (fun d hd => hJ d (ycd _ hd)) X0
  have hb := ihb κ m (ROk.l hR).2 hκ (fun d hd => hJ d (ybg _ hd)) X0
  have h : wpT C.base W J (obT (ob (ev x (.now st.tm)) zab.asBool) fun b' => bif zzhh x st.lit then Bool.rec (motive := fun _ => T) (z0i C la f n b κ st) (z0i C la f n a κ st) b' else .ite b' (z0i C la f n a κ st) (z0i C la f n b κ st)) t Q := h
  rw [zbg] at h; obtain ⟨w, h1, h2⟩ := h
  rw [zad] at h1; obtain ⟨v, h3, h4⟩ := h1
  show Res C.base X0 Q (ob (ob (ev x (.now tm)) zab.asBool) fun t => Bool.rec (motive := fun _ => zbs) (den C (fnV C A) f n b m tm HA) (den C (fnV C A) f n a m tm HA) t)
  refine Res.ob (a := w) (by rw [zas (zv7 hst).1 h3]; exact h4) ?_
  have h2 : if w = true then wpT C.base W J (z0i C la f n a κ st) t Q else wpT C.base W J (z0i C la f n b κ st) t Q := by
   rw [zal] at h2; split at h2
   ·cases w <;> exact h2
   ·exact h2
  cases w with
  | true => exact ha _ _ _ _ _ _ hst h2
  | false => exact hb _ _ _ _ _ _ hst h2
 | block id c ih =>
  intro κ m hR hκ hJ; refine ih ⟨κ.norm, fun i st => Bool.rec (motive := fun _ => T) (κ.exit i st) (κ.norm st) (Nat.beq id i), κ.ret⟩ ⟨m.norm, fun i tm H => Bool.rec (motive := fun _ => zbs) (m.exit i tm H) (m.norm tm H) (Nat.beq id i), m.ret⟩ hR (fun X0 => ⟨(hκ X0).norm, fun i => ?_, (hκ X0).ret⟩) hJ
  intro st tm HA t X ν hst h; have h : wpT C.base W J (Bool.rec (motive := fun _ => T) (κ.exit i st) (κ.norm st) (Nat.beq id i)) t Q := h
  show Res C.base X0 Q (Bool.rec (motive := fun _ => zbs) (m.exit i tm HA) (m.norm tm HA) (Nat.beq id i))
  cases hb : Nat.beq id i with
  | true => rw [hb] at h; exact (hκ X0).norm _ _ _ _ _ _ hst h
  | false => rw [hb] at h; exact (hκ X0).exit i _ _ _ _ _ _ hst h
 | loop p c ih => intro κ m _ hκ hJ X0; exact z1l hJ yaz
 | exit id => intro κ m _ hκ _ X0; exact (hκ X0).exit id
 | ret => intro κ m _ hκ _ X0; exact (hκ X0).ret
 | cut p c ih => intro κ m _ hκ hJ X0; exact z1l hJ yaz
 | range i pl fo ps id ops c ih => intro κ m hR hκ hJ X0; exact z9l hW hY hκ (hR _ yaz) fun vals t Q h => hJ _ yaz vals t Q h
def PtOk (C : Ctx) (W J : zhn) (kf : Nat) (l : List PtT) (d : PtD) : Prop := ∃ q ∈ l, q.p = d.p /\ ∀ vals t Q, wpT C.base W J (q.tree vals) t Q -> zzgp C.base kf d vals t Q
def keptOk (kf : Nat) : zcc -> Bool
 | .seq a b => keptOk kf a && keptOk kf b
 | .cond _ a b => keptOk kf a && keptOk kf b
 | .block _ c => keptOk kf c
 | .loop p c => p.kept.all (fun i => Nat.blt i kf) && keptOk kf c
 | .cut p c => p.kept.all (fun i => Nat.blt i kf) && keptOk kf c
 | .range _ _ _ _ _ _ c => keptOk kf c
 | _ => true
theorem z9u (hW : zkf C A W) (hY : zzgm C A W) {la : List Nat} {f : Nat} : ∀ (c : zcc) (κ : KtT) (m : Kt), ROk A f c -> keptOk kf c = true -> (∀ X0 Q, SKt C W J X0 kf Q κ m) -> JOk C.base kf J (zd2 C (fnV C A) f n c m) -> ∀ d ∈ zd2 C (fnV C A) f n c m, PtOk C W J kf (zj4 C la f n kf c κ) d := by
 have up : ∀ {l l' : List PtT} {d : PtD}, PtOk C W J kf l d -> (∀ q ∈ l, q ∈ l') -> PtOk C W J kf l' d := fun ⟨q, h1, h2⟩ hl => ⟨q, hl q h1, h2⟩
 intro c; induction c with
 | skip => intro κ m _ _ _ _ d hd; cases hd
 | region id ops dr => intro κ m _ _ _ _ d hd; cases hd
 | seq a b iha ihb =>
  intro κ m hR hk hκ hJ d hd; unfold keptOk at hk; rw [yac] at hk; have e : zj4 C la f n kf (.seq a b) κ = zj4 C la f n kf a ⟨z0i C la f n b κ, κ.exit, κ.ret⟩ ++ zj4 C la f n kf b κ := zb7 _ _
  rw [e]; have hJa : JOk C.base kf J (zd2 C (fnV C A) f n a ⟨den C (fnV C A) f n b m, m.exit, m.ret⟩) := fun d hd => hJ d (ycd _ hd)
  have hJb : JOk C.base kf J (zd2 C (fnV C A) f n b m) := fun d hd => hJ d (ybg _ hd)
  rcases List.mem_append.1 hd with hd | hd
  ·exact up (iha ⟨z0i C la f n b κ, κ.exit, κ.ret⟩ ⟨den C (fnV C A) f n b m, m.exit, m.ret⟩ (ROk.l hR).1 hk.1 (fun X0 Q => ⟨zqr hW hY b κ m (ROk.l hR).2 (fun X0 => hκ X0 Q) hJb X0, (hκ X0 Q).exit, (hκ X0 Q).ret⟩) hJa d hd) fun q hq => ycd _ hq
  ·exact up (ihb _ _ (ROk.l hR).2 hk.2 hκ hJb d hd) fun q hq => ybg _ hq
 | cond x a b iha ihb =>
  intro κ m hR hk hκ hJ d hd; unfold keptOk at hk; rw [yac] at hk; have e : zj4 C la f n kf (.cond x a b) κ = zj4 C la f n kf a κ ++ zj4 C la f n kf b κ := zb7 _ _
  rw [e]; rcases List.mem_append.1 hd with hd | hd
  ·exact up (iha _ _ (ROk.l hR).1 hk.1 hκ (fun d hd => hJ d (ycd _ hd)) d hd) fun q hq => ycd _ hq
  ·exact up (ihb _ _ (ROk.l hR).2 hk.2 hκ (fun d hd => hJ d (ybg _ hd)) d hd) fun q hq => ybg _ hq
 | block id c ih =>
  intro κ m hR hk hκ hJ d hd; refine ih ⟨κ.norm, fun i st => Bool.rec (motive := fun _ => T) (κ.exit i st) (κ.norm st) (Nat.beq id i), κ.ret⟩ ⟨m.norm, fun i tm H => Bool.rec (motive := fun _ => zbs) (m.exit i tm H) (m.norm tm H) (Nat.beq id i), m.ret⟩ hR hk (fun X0 Q => ⟨(hκ X0 Q).norm, fun i => ?_, (hκ X0 Q).ret⟩) hJ d hd
  intro st tm HA t X ν hst h; have h : wpT C.base W J (Bool.rec (motive := fun _ => T) (κ.exit i st) (κ.norm st) (Nat.beq id i)) t Q := h
  show Res C.base X0 Q (Bool.rec (motive := fun _ => zbs) (m.exit i tm HA) (m.norm tm HA) (Nat.beq id i))
  cases hb : Nat.beq id i with
  | true => rw [hb] at h; exact (hκ X0 Q).norm _ _ _ _ _ _ hst h
  | false => rw [hb] at h; exact (hκ X0 Q).exit i _ _ _ _ _ _ hst h
 | loop p c ih =>
  intro κ m hR hk hκ hJ d hd; unfold keptOk at hk; rw [yac, ybc] at hk; have hJc : JOk C.base kf J (zd2 C (fnV C A) f n c ⟨den C (fnV C A) f n (.loop p c) m, m.exit, m.ret⟩) := fun d hd => hJ d (yas _ hd)
  have hκ' : ∀ X0 Q, SKt C W J X0 kf Q ⟨z6a p, κ.exit, κ.ret⟩ ⟨den C (fnV C A) f n (.loop p c) m, m.exit, m.ret⟩ := fun X0 Q => ⟨z1l hJ yaz, (hκ X0 Q).exit, (hκ X0 Q).ret⟩
  rcases yat.1 hd with rfl | hd
  ·refine ⟨_, yaz, rfl, fun vals t Q hw X0 X HA tm ν hst => ?_⟩
   show Res C.base X0 Q (den C (fnV C A) f n (.loop p c) m tm HA)
   rw [zzf5]; exact zqr hW hY c _ _ hR (fun X0 => hκ' X0 Q) hJc X0 _ _ _ _ _ _ (hst.keep fun i hi => zc8.1 (hk.1 i hi)) hw
  ·exact up (ih ⟨z6a p, κ.exit, κ.ret⟩ ⟨den C (fnV C A) f n (.loop p c) m, m.exit, m.ret⟩ hR hk.2 hκ' hJc d hd) fun q hq => yas _ hq
 | exit id => intro κ m _ _ _ _ d hd; cases hd
 | ret => intro κ m _ _ _ _ d hd; cases hd
 | cut p c ih =>
  intro κ m hR hk hκ hJ d hd; unfold keptOk at hk; rw [yac, ybc] at hk; have hJc : JOk C.base kf J (zd2 C (fnV C A) f n c m) := fun d hd => hJ d (yas _ hd)
  rcases yat.1 hd with rfl | hd
  ·refine ⟨_, yaz, rfl, fun vals t Q hw X0 X HA tm ν hst => ?_⟩
   exact zqr hW hY c _ _ hR (fun X0 => hκ X0 Q) hJc X0 _ _ _ _ _ _ (hst.keep fun i hi => zc8.1 (hk.1 i hi)) hw
  ·exact up (ih _ _ hR hk.2 hκ hJc d hd) fun q hq => yas _ hq
 | range i pl fo ps id ops c ih =>
  intro κ m hR hk hκ hJ d hd; have hR' : ROk A f c := fun q hq => hR q (yas _ hq)
  have hJc : JOk C.base kf J (zd2 C (fnV C A) f n c rdK) := fun d hd => hJ d (yas _ hd)
  rcases yat.1 hd with rfl | hd
  ·refine ⟨_, yaz, rfl, fun vals t Q hw X0 X HA tm ν hst => ?_⟩
   exact zqr hW hY (.seq (.region id ops false) c) rdT rdK (fun q hq => hR' q hq) (fun _ => zzhd) (fun d hd => hJc d hd) X0 _ _ _ _ _ _ hst hw
  ·exact up (ih rdT rdK hR' hk (fun _ _ => zzhd) hJc d hd) fun q hq => yas _ hq
end
end Go.Am
namespace Go.Am
open Go Go.RowKit
def Tr.mapT {α β : Type} (f : α -> β) (t : Tr α) : Tr β := Tr.rec (motive := fun _ => Tr β) .leaf (fun _ v _ l r => .node l (match v with | some a => some (f a) | none => none) r) t
theorem Tr.get_mapT {α β : Type} (f : α -> β) : ∀ (t : Tr α) (n : Nat), (t.mapT f).get n = (t.get n).map f := by
 intro t; induction t with
 | leaf => intro n; rfl
 | node l v r ihl ihr =>
  intro n; show (Tr.node (l.mapT f) (match v with | some a => some (f a) | none => none) (r.mapT f)).get n = _
  rw [Tr.get_node, Tr.get_node]; split
  ·cases v <;> rfl
  ·split
   ·exact ihl _
   ·exact ihr _
def zez (F : Tr zb5) : Tr zcc := F.mapT zb5.code
def fnB (f kf : Nat) (c : zcc) : Bool := Nat.blt f yo && (keptOk kf c && (match zej c with | [] => true | [_] => true | _ => false))
structure zcx (C : Ctx) (F : Tr zb5) (f : Nat) (fn : Func) (kf : Nat) (A : zb5) : Prop where
 isF : F.get f = some A
 isFn : C.fns.get f = some fn
 isK : C.ks.get f = some kf
 prim : zcm (C.prims.get f) = true
 kept : fnB f kf A.code = true
 body : zcm fn.body = false
theorem zcx.lt {C : Ctx} {F : Tr zb5} {f : Nat} {fn : Func} {kf : Nat} {A : zb5} (h : zcx C F f fn kf A) : Nat.blt f yo = true := by
 have := h.kept; unfold fnB at this; rw [yac] at this; exact this.1
theorem zcx.keptOk {C : Ctx} {F : Tr zb5} {f : Nat} {fn : Func} {kf : Nat} {A : zb5} (h : zcx C F f fn kf A) : keptOk kf A.code = true := by
 have := h.kept; unfold fnB at this; simp only [yac] at this; exact this.2.1
theorem zcx.code {C : Ctx} {F : Tr zb5} {f : Nat} {fn : Func} {kf : Nat} {A : zb5} (h : zcx C F f fn kf A) : (zez F).get f = some A.code := by unfold zez; rw [Tr.get_mapT, h.isF]; rfl
theorem zcx.one {C : Ctx} {F : Tr zb5} {f : Nat} {fn : Func} {kf : Nat} {A : zb5} (h : zcx C F f fn kf A) : ROk (zez F) f A.code := by
 have := h.kept
 unfold fnB at this; simp only [yac] at this; intro q hq; refine ⟨_, h.code, ?_⟩
 unfold zmp
 cases hx : zej A.code with
 | nil => rw [hx] at hq; cases hq
 | cons a l =>
  cases l with
  | nil => rw [hx, yce] at hq; rw [hq]
  | cons _ _ => rw [hx] at this; cases this.2.2
def Wc (C : Ctx) (F : Tr zb5) : zhn := fun f args t Q => ∀ X HA, Ov C.base t X HA -> Res C.base X Q (z2a C (zez F) f args HA)
theorem Wc.mono {C : Ctx} {F : Tr zb5} {f : Nat} {args : List zab} {t : Tr zak} {Q Q' : zao} (h : Wc C F f args t Q) (k : ∀ v t', Q v t' -> Q' v t') : Wc C F f args t Q' := fun X HA ho => (h X HA ho).mono k
theorem Tr.bound {α : Type} (t : Tr α) : ∃ n, ∀ b y, t.get b = some y -> b < n := by
 induction t with
 | leaf => exact ⟨0, fun b y h => by rw [Tr.get_leaf] at h; cases h⟩
 | node l v r ihl ihr =>
  obtain ⟨n, hn⟩ := ihl
  obtain ⟨m, hm⟩ := ihr
  refine ⟨2 * n + 2 * m + 3, fun b y h => ?_⟩
  rw [Tr.get_node] at h; split at h
  ·omega
  ·split at h
   ·have := hn _ _ h; omega
   ·have := hm _ _ h; omega
def PV (C : Ctx) (F : Tr zb5) (f : Nat) (args : List zab) (t : Tr zak) (v : zab) : Prop := Wc C F f args t fun v' t' => v' = v /\ t' = t
theorem PV.unique {C : Ctx} {F : Tr zb5} {f : Nat} {args : List zab} {t : Tr zak} {v v' : zab} (h : PV C F f args t v) (h' : PV C F f args t v') : v = v' := by
 obtain ⟨n, hn⟩ := Tr.bound t
 have ho : Ov C.base t (fun _ => none) ⟨C.base + n, t⟩ := ⟨Nat.le_add_right _ _, fun _ _ => rfl, fun _ _ h => (by cases h), fun b y hb => Nat.lt_of_lt_of_le (hn b y hb) (Nat.le_add_left _ _)⟩
 obtain ⟨u, t', HA', X', h1, _, _, h2, _⟩ := h _ _ ho
 obtain ⟨u', t'', HA'', X'', h3, _, _, h4, _⟩ := h' _ _ ho
 rw [h1] at h3
 cases h3; rw [<- h2, <- h4]
def pvC (C : Ctx) (F : Tr zb5) (f : Nat) (args : List zab) (t : Tr zak) : Option zab := @dite _ (∃ v, PV C F f args t v) (Classical.propDecidable _) (fun h => some h.choose) (fun _ => none)
theorem zaz {C : Ctx} {F : Tr zb5} {f : Nat} {args : List zab} {t : Tr zak} {v : zab} : pvC C F f args t = some v ↔ PV C F f args t v := by
 unfold pvC; constructor
 ·intro h
  by_cases hx : ∃ v, PV C F f args t v
  ·rw [dif_pos hx] at h; cases h; exact hx.choose_spec
  ·rw [dif_neg hx] at h; cases h
 ·intro h
  have hx : ∃ v, PV C F f args t v := ⟨v, h⟩
  rw [dif_pos hx, PV.unique hx.choose_spec h]
def Wq (C : Ctx) (F : Tr zb5) (pure : Nat -> Bool) : zhn := fun f args t R => if (pure f && Nat.blt f yo) = true then zcf (pvC C F f args t) fun v => R v t else Wc C F f args t R
theorem Wq_ok {C : Ctx} {F : Tr zb5} {pure : Nat -> Bool} : zkf C (zez F) (Wq C F pure) := by
 intro f args t R h X HA ho; unfold Wq at h; split at h
 ·rw [zfd] at h
  obtain ⟨v, h1, h2⟩ := h
  exact ((zaz.1 h1) X HA ho).mono fun v' t' hh => by rw [hh.1, hh.2]; exact h2
 ·exact h X HA ho
theorem zzib {C : Ctx} {F : Tr zb5} {pure : Nat -> Bool} : zzgm C (zez F) (Wq C F pure) := by
 intro l args t Q h; unfold Wq; have : Nat.blt (yo + l) yo = false := Bool.eq_false_iff.2 fun e => by have := zc8.1 e; omega
 rw [this, Bool.and_false, if_neg (by simp)]
 exact h
def Jq (C : Ctx) (F : Tr zb5) (f : Nat) : zhn := fun i vals t Q => ∀ fn kf A, zcx C F f fn kf A -> ∀ d ∈ zd2 C (fnV C (zez F)) f fn.ntmps A.code (zzdg C fn), d.p.id = i -> zzgp C.base kf d vals t Q
theorem Jq_ok {C : Ctx} {F : Tr zb5} {f : Nat} {fn : Func} {kf : Nat} {A : zb5} (h : zcx C F f fn kf A) : JOk C.base kf (Jq C F f) (zd2 C (fnV C (zez F)) f fn.ntmps A.code (zzdg C fn)) :=
 fun d hd _ _ _ hJ => hJ fn kf A h d hd rfl
section
variable {W J : zhn} {t : Tr zak} {X X0 : Xt} {HA : zaf} {C : Ctx} {A : Tr zcc} {ν : Nat -> Nat} {Q : zao} {kf n : Nat} {st : TSt} {tm : Tm}
theorem zzi6 (hst : zde C.base X0 kf ν X st tm HA t) : ∀ (l : List ResultVar) (K : List zab -> T), wpT C.base W J (resT C st l K) t Q -> ∃ vs, zgp C HA tm l = some vs /\ wpT C.base W J (K vs) t Q := by
 intro l; induction l with
 | nil => intro K h; exact ⟨[], rfl, h⟩
 | cons r l ih =>
  intro K h
  cases r with
  | tmp i =>
   have h : wpT C.base W J (obT (st.tm.get i) fun v => resT C st l fun l => K (v :: l)) t Q := h
   rw [zbg] at h; obtain ⟨v, h1, h2⟩ := h
   obtain ⟨vs, h3, h4⟩ := ih _ h2
   refine ⟨v :: vs, ?_, h4⟩
   show zd4 (zj3 C HA tm) _ = _
   rw [zch]; show ob (tm.get i) _ = _
   rw [hst.tms _ _ h1, zac]; have h3 : zd4 (zj3 C HA tm) l = some vs := h3
   rw [h3]; rfl
  | cell a ty =>
   have h : wpT C.base W J (match zge a st.ad with
    | some p => obT (st.lo.get p.1) fun m => obT (C.tys.get ty) fun y => gdT (Nat.ble (p.2 + y.size) (zbw m)) (obT (zlx C ty m p.2) fun v => resT C st l fun l => K (v :: l))
    | none => obT (st.tm.get a) fun a => .light (fun m => zau C ty ⟨0, m⟩ a) fun v => resT C st l fun l => K (v :: l)) t Q := h
   have fin : ∀ {u v : zab}, tm.get a = some u -> zau C ty HA u = some v -> wpT C.base W J (resT C st l fun l => K (v :: l)) t Q -> ∃ vs, zgp C HA tm (.cell a ty :: l) = some vs /\ wpT C.base W J (K vs) t Q := by
    intro u v h1 h2 h3; obtain ⟨vs, h4, h5⟩ := ih _ h3
    refine ⟨v :: vs, ?_, h5⟩
    show zd4 (zj3 C HA tm) _ = _
    rw [zch]; have e : zj3 C HA tm (.cell a ty) = some v := by
     show (ob (ob (tm.get a) zab.asPtr) fun p => ob (C.tys.get ty) fun ty => ob (zaq HA p.1) fun c => zob ty c.1 p.2) = some v
     unfold zau at h2; rw [h1, zac]; exact h2
    have h4 : zd4 (zj3 C HA tm) l = some vs := h4
    rw [e, zac, h4]; rfl
   split at h
   ·rename_i p hp
    simp only [zbg, zf8] at h; obtain ⟨m, h1, y, h2, h3, v, h4, h5⟩ := h
    exact fin (hst.ads _ _ hp) (z3t hst.ov hst.lo h1 h2 h3 h4) h5
   ·simp only [zbg, zkh] at h
    obtain ⟨u, h1, v, h2, h3⟩ := h
    exact fin (hst.tms _ _ h1) (znw hst.ov.le h2) h3
theorem zzb9 {fn : Func} : SK C W J X0 kf Q (endT C fn) (endK C fn) := by
 intro st tm HA t X ν hst h; obtain ⟨vs, h1, h2⟩ := zzi6 hst _ _ h
 unfold endK; exact Res.ob h1 ⟨_, t, HA, X, rfl, hst.ov, hst.le, h2⟩
theorem z8h {fn : Func} : SKt C W J X0 kf Q (topT C fn) (zzdg C fn) := ⟨zzb9, fun _ _ _ _ _ _ _ _ h => h.elim, zzb9⟩
end
section
variable {C : Ctx} {F : Tr zb5} {f : Nat} {fn : Func} {kf : Nat} {A : zb5} {pure : Nat -> Bool} {t : Tr zak} {Q : zao}
theorem zbd (h : zcx C F f fn kf A) {args : List zab} (hl : (Nat.ble (zbw args) kf && Nat.ble (zbw args) fn.ntmps) = true) (hw : wpT C.base (Wq C F pure) (Jq C F f) (entT C fn kf f A args) t Q) : Wc C F f args t Q := by
 intro X HA ho; have hA := h.code
 obtain ⟨body, hb⟩ : ∃ b, fn.body = some b := by
  cases hx : fn.body with
  | none => have := h.body; rw [hx] at this; cases this
  | some b => exact ⟨b, rfl⟩
 have he : zfl C f args false = some ⟨[.code body], ⟨kf, Tr.ofList args, []⟩, ⟨f, fn.ntmps, [], .run, false, none⟩⟩ := by
  unfold zfl; rw [h.isFn, zac, hb, zac, h.isK, zac, hl]; rfl
 have hp : C.prims.get f = none := by
  cases hx : C.prims.get f with
  | none => rfl
  | some g => have := h.prim; rw [hx] at this; cases this
 rw [zkx h.lt, hp]; show Res C.base X Q (fnV C (zez F) (.func f) args HA)
 rw [zzh3]; show Res C.base X Q (z7m C (zez F) (fnV C (zez F)) f args HA)
 unfold z7m; refine Res.ob hA (Res.ob h.isFn (Res.ob he ?_))
 have hst : zde C.base X kf (fun i => i) X ⟨⟨kf, Tr.ofList args, []⟩, [], .leaf, []⟩ ⟨kf, Tr.ofList args, []⟩ HA t :=
  ⟨ho, XLe.refl _, rfl, rfl, fun _ _ h => h, fun _ _ h => (by cases h), fun d l h => (by rw [Tr.get_leaf] at h; cases h), fun d _ l _ h => (by rw [Tr.get_leaf] at h; cases h)⟩
 exact zqr Wq_ok zzib A.code (topT C fn) (zzdg C fn) h.one (fun _ => z8h) (Jq_ok h) _ _ _ _ _ _ _ hst hw
theorem Jq_of (h : zcx C F f fn kf A) {i : Nat} {vals : List zab} {l : List T} (hp : z9v (ptsT C fn kf f A) i vals = l) (hw : ∀ T ∈ l, wpT C.base (Wq C F pure) (Jq C F f) T t Q) : Jq C F f i vals t Q := by
 intro fn' kf' A' h' d hd hi; have e1 := h.isFn; rw [h'.isFn] at e1; cases e1
 have e2 := h.isK; rw [h'.isK] at e2; cases e2
 have e3 := h.isF; rw [h'.isF] at e3; cases e3
 obtain ⟨q, h1, h2, h3⟩ := z9u (W := Wq C F pure) Wq_ok zzib A.code (topT C fn) (zzdg C fn) h.one h.keptOk (fun _ _ => z8h) (Jq_ok h) d hd
 refine h3 vals t Q (hw _ ?_)
 subst hp; have key : ∀ (l : List PtT), q ∈ l -> q.tree vals ∈ z9v l i vals := by
  intro l; induction l with
  | nil => intro h; cases h
  | cons p l ih =>
   intro hm; show q.tree vals ∈ (bif Nat.beq p.p.id i then p.tree vals :: z9v l i vals else z9v l i vals)
   rw [zal]; rcases yat.1 hm with e | hm
   ·subst e
    rw [if_pos (by rw [h2]; exact zcy.2 hi)]
    exact yaz
   ·split
    ·exact yas _ (ih hm)
    ·exact ih hm
 exact key _ h1
theorem zbr (h : zcx C F f fn kf A) {i : Nat} {vals : List zab} {T : T} (hp : z9v (ptsT C fn kf f A) i vals = [T]) (hw : wpT C.base (Wq C F pure) (Jq C F f) T t Q) : Jq C F f i vals t Q :=
 Jq_of h hp fun T' hT => by rw [yce.1 hT]; exact hw
theorem Jq.mono {i : Nat} {vals : List zab} {Q' : zao} (h : Jq C F f i vals t Q) (k : ∀ v t', Q v t' -> Q' v t') : Jq C F f i vals t Q' :=
 fun fn kf A hf d hd hi X0 X HA tm ν hst => (h fn kf A hf d hd hi X0 X HA tm ν hst).mono k
theorem Wc_pv {args : List zab} {v : zab} (h : pvC C F f args t = some v) (hq : Q v t) : Wc C F f args t Q := (zaz.1 h).mono fun _ _ hh => by rw [hh.1, hh.2]; exact hq
theorem zv0 {g : List zab -> zaf -> Option zab} (hg : C.prims.get f = some (zk2 g)) {args : List zab} {v : zab} (h : ∀ H, g args H = some v) (hf : Nat.blt f yo = true := by rfl) : pvC C F f args t = some v := by
 refine zaz.2 fun X HA ho => ?_
 rw [zkx hf, hg]; exact ⟨v, t, HA, X, by simp only [zk2, h HA, zac], ho, XLe.refl _, rfl, rfl⟩
theorem ztc {args : List zab} {v : zab} (h : Wc C F f args t fun v' t' => v' = v /\ ∀ b y, t.get b = some y -> t'.get b = some y) : pvC C F f args t = some v := by
 refine zaz.2 fun X HA ho => ?_
 obtain ⟨u, t', HA', X', h1, h2, h3, h4, h5⟩ := h X HA ho
 refine ⟨u, t, HA', fun b => match t.get b with | some _ => none | none => HA'.t.get b, h1, ⟨h2.base, ?_, ?_, ?_⟩, ?_, h4, rfl⟩
 ·intro b hb
  cases hg : t.get b with
  | some y => rw [h2.up (h5 b y hg)]
  | none => simp only [hg] at hb; exact hb
 ·intro b y hb
  cases hg : t.get b with
  | some y => simp only [hg] at hb; cases hb
  | none =>
   simp only [hg] at hb; refine ⟨hb, rfl, ?_⟩
   cases hx : X' b with
   | some z => exact (h2.ext b z hx).2.2
   | none => rw [h2.same b hx] at hb; exact h2.lt b y hb
 ·intro b y hb; exact h2.lt b y (h5 b y hb)
 ·intro b y hb
  have hn := (ho.ext b y hb).2.1
  simp only [hn]; exact (h2.ext b y (h3 b y hb)).1
end
theorem z19 {P : Program} {C : Ctx} {F : Tr zb5} {B N : Nat} {I : World -> Prop} {μ : Mu} {w : World} (hS : Sim P C B N I) (hI : I w) (hA : zl9 C (zez F)) {f : Nat} (hp : C.prims.get f = none) {args : List zab} {args' : Array Value} {H : zaf} {Q : zao} (hbase : C.base <= H.next) (hlt : ∀ b y, H.t.get b = some y -> b < H.next) (hH : zbf B N μ H w) (hl : zbk μ args args'.toList)
  (h : Wc C F f args H.t Q) (hf : Nat.blt f yo = true := by rfl) : Calls P f args' w fun e w' => ∃ v v' t' μ', e = .returned v' /\ μ.lw μ' /\ zan μ' v v' /\ Q v t' /\ Below N w w' := by
 obtain ⟨v, t', HA', X', h1, h2, h3, h4⟩ := h (fun _ => none) H ⟨hbase, fun _ _ => rfl, fun _ _ h => (by cases h), hlt⟩
 rw [zkx hf, hp] at h1; intro base; obtain ⟨e, w', b, ⟨v', μ', g1, g2, g3, g4, g5⟩, g6⟩ := zzd hS hI hA hH hl h1 base
 exact ⟨e, w', b, ⟨v, v', t', μ', g1, g2, g3, h4, g5⟩, g6⟩
end Go.Am
namespace Go.Am
open Go Go.RowKit
def piOf (i : Nat) (l : List (Nat × PI)) : Option PI := List.rec (motive := fun _ => Option PI) none (fun a _ g => bif Nat.beq i a.1 then some a.2 else g) l
def cutP (p : Option PI) (c : zcc) : zcc :=
 match p with
 | some p => .cut p c
 | none => c
def zzjj (p : Option PI) (c : zcc) : zcc :=
 match p with
 | some p => .loop p c
 | none => .loop ⟨0, [], []⟩ c
def rangeP (p : Option PI) (f : Operand) (ps : Array Nat) (a : Code) (c : zcc) : zcc :=
 match a with
 | .region id ops _ => .range (match p with | some p => p.id | none => 0) (match p with | some p => p.pl | none => []) f ps id ops c
 | _ => .skip
def z35 : Code -> Bool
 | .region _ _ d => !d
 | _ => false
def znm (rt lt : List (Nat × PI)) (c : Code) : Nat -> zcc :=
 Code.rec (motive := fun _ => Nat -> zcc)
  (fun _ => .skip)
  (fun id ops d _ => cutP (piOf id rt) (.region id ops d))
  (fun _ _ ga gb k => .seq (ga k) (gb k))
  (fun c _ _ gx gy k => .cond c (gx k) (gy k))
  (fun id _ g _ => .block id (g id))
  (fun _ g k => zzjj (piOf k lt) (g k))
  (fun f ps a _ _ gb k => rangeP (piOf k lt) f ps a (gb k))
  (fun id _ => .exit id)
  (fun _ _ _ => .skip)
  (fun _ _ => .skip)
  (fun _ _ => .skip)
  (fun _ => .ret)
  (fun _ _ => .skip) c
def zbc (rt lt : List (Nat × PI)) (k : Nat) (c : Code) : zcc := znm rt lt c k
def zil (c : Code) : Bool :=
 Code.rec (motive := fun _ => Bool) true (fun _ _ _ => true) (fun _ _ a b => bif a then b else false) (fun _ _ _ a b => bif a then b else false) (fun _ _ a => a) (fun _ a => a)
  (fun _ _ a _ _ b => bif z35 a then b else false) (fun _ => true) (fun _ _ => false) (fun _ => false) (fun _ => false) true (fun _ => false) c
theorem z6q (p : Option PI) (c : zcc) : zdh (cutP p c) = zdh c := by cases p <;> rfl
theorem z1w (p : Option PI) (c : zcc) : zdh (zzjj p c) = .loop (zdh c) := by cases p <;> rfl
theorem z1x {rt lt : List (Nat × PI)} : ∀ (c : Code) (k : Nat), zil c = true -> zdh (znm rt lt c k) = c := by
 intro c; induction c with
 | skip => intro k _; rfl
 | region id ops d => intro k _; show zdh (cutP _ _) = _; rw [z6q]; rfl
 | seq a b iha ihb =>
  intro k h; have h : (bif zil a then zil b else false) = true := h
  have ha : zil a = true := by cases hx : zil a with | true => rfl | false => rw [hx] at h; cases h
  have hb : zil b = true := by rw [ha] at h; exact h
  show Code.seq (zdh (znm rt lt a k)) (zdh (znm rt lt b k)) = _
  rw [iha k ha, ihb k hb]
 | cond c x y ihx ihy =>
  intro k h; have h : (bif zil x then zil y else false) = true := h
  have ha : zil x = true := by cases hx : zil x with | true => rfl | false => rw [hx] at h; cases h
  have hb : zil y = true := by rw [ha] at h; exact h
  show Code.cond c (zdh (znm rt lt x k)) (zdh (znm rt lt y k)) = _
  rw [ihx k ha, ihy k hb]
 | block id c ih => intro k h; show Code.block id (zdh (znm rt lt c id)) = _; rw [ih id h]
 | loop c ih => intro k h; show zdh (zzjj _ (znm rt lt c k)) = _; rw [z1w, ih k h]
 | exit id => intro k _; rfl
 | ret => intro k _; rfl
 | rangeFunc f ps a b _ ihb =>
  intro k h; have h : (bif z35 a then zil b else false) = true := h
  cases a with
  | region id ops d =>
   cases d with
   | true => cases h
   | false => show Code.rangeFunc f ps (.region id ops false) (zdh (znm rt lt b k)) = _; rw [ihb k h]
  | _ => cases h
 | scope c _ => intro k h; cases h
 | label l => intro k h; cases h
 | goto l => intro k h; cases h
 | refuse s => intro k h; cases h
def tabF (l : List (Nat × zb5)) : Tr zb5 := List.rec (motive := fun _ => Tr zb5) .leaf (fun p _ g => g.set p.1 p.2) l
theorem zzds {l : List (Nat × zb5)} {f : Nat} {A : zb5} (h : (tabF l).get f = some A) : (f, A) ∈ l := by
 induction l with
 | nil => rw [show tabF [] = .leaf from rfl, Tr.get_leaf] at h; cases h
 | cons p l ih =>
  have h : ((tabF l).set p.1 p.2).get f = some A := h
  rw [Tr.get_set] at h; split at h
  ·rename_i e; cases h; rw [e]; exact yaz
  ·exact yas _ (ih h)
def zzid (C : Ctx) (p : Nat × zb5) : Prop := ∃ fn c, C.fns.get p.1 = some fn /\ fn.body = some c /\ zdh p.2.code = c
theorem zaw {C : Ctx} {f : Nat} {fn : Func} {c : Code} {rt lt : List (Nat × PI)} {la : List Nat} (h1 : C.fns.get f = some fn) (h2 : fn.body = some c) (h3 : zil c = true) : zzid C (f, ⟨zbc rt lt 0 c, la⟩) := ⟨fn, c, h1, h2, z1x c 0 h3⟩
theorem z6z {C : Ctx} {l : List (Nat × zb5)} (h : ∀ p ∈ l, zzid C p) : zl9 C (zez (tabF l)) := by
 intro f c hc; unfold zez at hc; rw [Tr.get_mapT] at hc
 cases hq : (tabF l).get f with
 | none => rw [hq] at hc; cases hc
 | some A =>
  rw [hq] at hc
  cases hc; obtain ⟨fn, b, h1, h2, h3⟩ := h _ (zzds hq)
  exact ⟨fn, h1, by rw [h2, h3]⟩
end Go.Am
namespace Go.Am
class zcb where
 n : Nat
def zzej (a : List zab) (_ : zaf) : Option zab := match a with | [] => some (.bool true) | _ => none
def z6b : List Nat -> List Nat -> Bool
 | [], _ => true
 | _ :: _, [] => false
 | a :: x, b :: y => bif Nat.beq a b then z6b x y else false
def cutL (sub : List Nat) : List Nat -> Option (List Nat × List Nat)
 | [] => bif sub.isEmpty then some ([], []) else none
 | b :: l => bif z6b sub (b :: l) then some ([], zmu (b :: l) (zbw sub)) else ob (cutL sub l) fun p => some (b :: p.1, p.2)
def pCut (a : List zab) (_ : zaf) : Option zab := match a with
 | [.str s, .str c] => zaj (Nat.blt (zbw s) 4294967281) (match cutL c s with
  | some p => some (.tup [.str p.1, .str p.2, .bool true])
  | none => some (.tup [.str s, .str [], .bool false]))
 | _ => none
def zpo (n : Int) : List Nat := (Lib.itoa n).map UInt8.toNat
def z5v (a : List zab) (_ : zaf) : Option zab := match a with
 | [.int .i64 n] => zaj (iLe (-9223372036854775808) n && iLt n 9223372036854775808) (some (.str (zpo n)))
 | _ => none
def z9y (a : List zab) (_ : zaf) : Option zab := match a with
 | [.int .u64 n, .int .i64 b] => zaj (iLe 0 n && iLt n 18446744073709551616 && iEq b 10) (some (.str (zpo n)))
 | _ => none
end Go.Am
namespace Go.Am
open Go Go.Shelf Go.RowKit Go.Proofs
variable {P : Program} {ρ : Ren}
set_option maxHeartbeats 2000000 in
set_option maxRecDepth 100000 in
theorem z6r (L : Lays.n169 P ρ) (X : Builder.Extra P ρ) (b g cap cells : Nat) (l : List UInt8) (w : World) (c1 : w.cell? ⟨b, 1, none⟩ = some (.slice (some ⟨g, 0, none⟩) l.length cap)) (h0 : l ≠ []) (hcap : l.length <= cap)
  (hsh : w.shape? g = some (ρ.t 5, cells)) (hc : l.length <= cells) (h63 : l.length <= 9223372036854775807) (hcell : ∀ j x, l[j]? = some x -> w.cell? ((⟨g, 0, none⟩ : Addr).add j) = some (.int .u8 x.toNat)) :
  Calls P (ρ.f 169) #[.pointer (some ⟨b, 0, none⟩)] w fun e w' => e = .returned (.string ⟨l.toArray⟩) /\ w' = w.drew.freeze ⟨g, 0, none⟩ l.length := by
 have hl0 : l.length ≠ 0 := by simpa using h0
 have c1 : w.drew.cell? ⟨b, 1, none⟩ = some (.slice (some ⟨g, 0, none⟩) l.length cap) := c1
 have hSD : (Builtin.unsafeSliceData_ #[(ρ.t 37)] (ρ.t 127) #[.slice (some ⟨g, 0, none⟩) l.length cap]).run P w.drew = .ok (.pointer (some ⟨g, 0, none⟩)) w.drew :=
  Lib.run_unsafeSliceData_row _ _ _ _ _ _ (by omega)
 have hUS : (Builtin.unsafeString_ #[(ρ.t 127), (ρ.t 3)] (ρ.t 9) #[.pointer (some ⟨g, 0, none⟩), .int .i64 l.length]).run P w.drew = .ok (.string ⟨l.toArray⟩) (w.drew.freeze ⟨g, 0, none⟩ l.length) :=
  Lib.run_unsafeString_row w.drew (ρ.t 127) (ρ.t 3) (ρ.t 9) (ρ.t 5) L.t127 X.cellsByte g cells hsh l h0 hc h63 hcell
 have mixed := L.mixed
 have t72 := L.t72; have a72 := L.a72; have z72 := L.z72; have v72 := L.v72; have u72 := run_underlying L.t72
 have t70 := L.t70; have a70 := L.a70; have z70 := L.z70; have v70 := L.v70; have u70 := run_underlying L.t70
 have t37 := L.t37; have a37 := L.a37; have z37 := L.z37; have v37 := L.v37; have u37 := run_underlying L.t37
 have t127 := L.t127; have a127 := L.a127; have z127 := L.z127; have v127 := L.v127; have u127 := run_underlying L.t127
 have t3 := L.t3; have a3 := L.a3; have z3 := L.z3; have v3 := L.v3; have u3 := run_underlying L.t3
 have t9 := L.t9; have a9 := L.a9; have z9 := L.z9; have v9 := L.v9; have u9 := run_underlying L.t9
 have t5 := X.t5; have a5 := X.a5; have z5 := X.z5; have v5 := X.v5; have u5 := run_underlying X.t5
 go_enter L.f169, Body.n169_ntmps ρ
 go_wp2
 go_region_o
 all_goals (go_wp2; go_ret; exact ⟨rfl, rfl⟩)
end Go.Am
namespace Go.Am
open Go Go.Shelf Go.RowKit Go.Proofs
section
variable {P : Program} {ρ : Ren} {B N : Nat} {μ : Mu} {H : zaf} {w : World}
theorem zbf.scratch (hH : zbf B N μ H w) {g : Nat} (hg : N <= g) (hfree : ∀ a x j, H.t.get a = some x -> μ a = some j -> j.b ≠ g) (o' : Obj) : zbf B N μ H (World.setBlk w g o') := by
 have hsz : (World.setBlk w g o').heap.size = w.heap.size := by simp [World.setBlk]
 refine ⟨hH.base, hH.glob, hH.low, hH.next, by rw [hsz]; exact hH.size, hH.fresh, fun a x i hx hi => ?_, fun a i ha hi => by rw [hsz]; exact hH.own a i ha hi, hH.inj, hH.pnd⟩
 obtain ⟨o, h1, h2⟩ := hH.blk a x i hx hi
 exact ⟨o, by rw [zfv, if_neg fun e => hfree a x i hx hi e.1]; exact h1, h2⟩
def zuk : List (Nat × Nat) -> Nat -> Nat -> Bool
 | [], _, _ => false
 | p :: r, t, n => bif Nat.beq p.1 t && Nat.ble p.2 n then true else zuk r t n
theorem zyh : ∀ {Ts : List (Nat × Nat)} {t n : Nat}, zuk Ts t n = true -> ∃ p ∈ Ts, p.1 = t /\ p.2 <= n
 | [], _, _, h => by cases h
 | p :: r, t, n, h => by
  unfold zuk at h; rw [zal] at h; split at h
  ·rename_i e
   rw [yac] at e; exact ⟨p, .head _, zcy.1 e.1, zh2.1 e.2⟩
  ·obtain ⟨q, h1, h2⟩ := zyh h
   exact ⟨q, .tail _ h1, h2⟩
def zre (base : Nat) (Ts : List (Nat × Nat)) (args : List zab) (H : zaf) : Option (zab × zaf) :=
 match args with
 | [.ptr b 0] => ob (zaq H b) fun c => ob (c.1.get 0) fun v => match v with
  | .nilptr => zaj (!Nat.blt b base && (match c.2.2 with | some (.ty t) => zuk Ts t c.2.1 | _ => false)) (some (.tup [], setBlk H b (.cells (c.1.set 0 (.ptr b 0)) c.2.1 c.2.2)))
  | .ptr d o => zaj (Nat.beq d b && Nat.beq o 0) (some (.tup [], H))
  | _ => none
 | _ => none
theorem z9z {f : Nat} {Ts : List (Nat × Nat)} {base : Nat} (hbase : B <= base)
  (hfresh : ∀ p ∈ Ts, ∀ (b n : Nat) (w : World), w.cell? ⟨b, 0, none⟩ = some (.pointer none) -> w.shape? b = some (p.1, n) -> p.2 <= n -> w.frozen? ⟨b, 0, none⟩ = false -> Calls P f #[.pointer (some ⟨b, 0, none⟩)] w fun e w' => e = .returned (.tuple #[]) /\ w' = w.setCell ⟨b, 0, none⟩ (.pointer (some ⟨b, 0, none⟩)))
  (hused : ∀ (b : Nat) (w : World), w.cell? ⟨b, 0, none⟩ = some (.pointer (some ⟨b, 0, none⟩)) -> Calls P f #[.pointer (some ⟨b, 0, none⟩)] w fun e w' => e = .returned (.tuple #[]) /\ w' = w)
  (henter : ∀ (w : World) (a : Array Value), (callFunc f a).run P w = .ok (.enter f a) w) {args : List zab} {args' : Array Value} {v : zab} {H' : zaf} (hH : zbf B N μ H w) (hv : zre base Ts args H = some (v, H')) (hl : zbk μ args args'.toList) :
  (callFunc f args').run P w = .ok (.enter f args') w /\ Calls P f args' w fun e w' => ∃ v' μ', e = .returned v' /\ μ.le μ' /\ zbf B N μ' H' w' /\ Below N w w' /\ zan μ' v v' := by
 refine ⟨henter w args', ?_⟩
 unfold zre at hv; split at hv
 case h_2 => cases hv
 rename_i b; rw [zbk] at hl; obtain ⟨u, r, h1, h2, h3⟩ := hl
 rw [zbk] at h3; subst h3; rw [zan] at h2; obtain ⟨i, hi, rfl⟩ := h2
 have ha : args' = #[.pointer (some ⟨i.b, 0, none⟩)] := by apply Array.toList_inj.1; rw [h1]
 subst ha; rw [zad] at hv; obtain ⟨⟨c, n, lo⟩, hc, hv⟩ := hv
 rw [zad] at hv; obtain ⟨v0, h0, hv⟩ := hv
 have hx := zdd hc
 obtain ⟨o, g1, g2⟩ := hH.blk _ _ _ hx hi
 have g2' := g2
 obtain ⟨cs, E, fr, rfl, g3, g4, g5, g6⟩ := g2
 obtain ⟨hn, u, hu, hr⟩ := g5 0 v0 h0
 have g3 : n <= cs.size := g3
 have hn : 0 < n := hn
 have hcell0 : w.cell? ⟨i.b, 0, none⟩ = some u := by unfold World.cell?; rw [g1]; simpa using hu
 have hundef : zan μ (.tup []) (.tuple #[]) := by rw [zan]; exact ⟨#[], rfl, .nil⟩
 split at hv
 ·rw [zan] at hr
  subst hr; simp only [zae, yac, ybq] at hv; obtain ⟨⟨hb, ht⟩, hv⟩ := hv
  cases hv; have hown : B <= b := by
   have : ¬ b < base := fun k => by rw [zc8.2 k] at hb; cases hb
   omega
  have hNb := hH.own b i hown hi
  have hfr := g4.resolve_left (by rw [hNb.2.2]; simp)
  have hE : ∃ p ∈ Ts, p.1 = E /\ p.2 <= n := by
   cases lo with
   | none => cases ht
   | some lo =>
    cases lo with
    | sz _ => cases ht
    | ty t =>
     obtain ⟨p, k1, k2, k3⟩ := zyh ht
     exact ⟨p, k1, by rw [k2]; exact (g6.2.2.2 t rfl).symm, k3⟩
  obtain ⟨p, hpT, hpE, hpn⟩ := hE
  subst hpE; refine (hfresh p hpT i.b cs.size w hcell0 (by unfold World.shape?; rw [g1]) (Nat.le_trans hpn g3) ?_).mono ?_
  ·unfold World.frozen?
   rw [g1]; obtain ⟨f1, f2⟩ := fr
   simp only at hfr ⊢
   rcases hfr with h | h
   ·cases hq : (f1 <= 0 && 0 < f2 : Bool) with
    | false => rfl
    | true => simp at hq; omega
   ·cases hq : (f1 <= 0 && 0 < f2 : Bool) with
    | false => rfl
    | true => simp at hq; omega
  ·rintro e w' ⟨rfl, rfl⟩
   rw [zld g1]; refine ⟨_, μ, rfl, μ.le_refl, hH.upd hx hi hown ?_, zc0 hNb.1, hundef⟩
   refine ⟨_, _, fr, rfl, by simpa using g3, by simpa using g4, fun j x hj => ?_, by simpa using g6⟩
   rw [Tr.get_set] at hj; split at hj
   ·rename_i e
    cases hj; subst e; exact ⟨hn, _, by rw [ybt, if_pos rfl, if_pos (by omega)], by rw [zan]; exact ⟨i, hi, rfl⟩⟩
   ·rename_i e
    obtain ⟨k1, y, k2, k3⟩ := g5 j x hj
    exact ⟨k1, y, by rw [ybt, if_neg (fun h => e h.symm)]; exact k2, k3⟩
 ·rename_i d o
  simp only [zae, yac, zcy] at hv; obtain ⟨⟨rfl, rfl⟩, hv⟩ := hv
  cases hv; rw [zan] at hr; obtain ⟨i', hi', rfl⟩ := hr
  rw [hi] at hi'
  cases hi'
  refine (hused i.b w hcell0).mono ?_
  rintro e w' ⟨rfl, rfl⟩
  exact ⟨_, μ, rfl, μ.le_refl, hH, Below.refl _ _, hundef⟩
 ·cases hv
theorem zzev {α β : Type} {f : α -> Option β} : ∀ {l : List α} {r : List β}, zd4 f l = some r -> r.length = l.length /\ ∀ (t : Nat) k, r[t]? = some k -> ∃ y, l[t]? = some y /\ f y = some k := by
 intro l; induction l with
 | nil => intro r h; rw [zg9] at h; cases h; exact ⟨rfl, fun t k h => by simp at h⟩
 | cons a l ih =>
  intro r h; rw [zch, zad] at h; obtain ⟨b, h1, h⟩ := h
  rw [zad] at h; obtain ⟨s, h2, h⟩ := h
  cases h; obtain ⟨i1, i2⟩ := ih h2
  refine ⟨by simp [i1], fun t k ht => ?_⟩
  cases t with
  | zero => simp at ht; subst ht; exact ⟨a, rfl, h1⟩
  | succ t => simp at ht; obtain ⟨y, e1, e2⟩ := i2 t k ht; exact ⟨y, by simpa using e1, e2⟩
theorem zzgs {k : Nat} (h : k < 256) : (UInt8.ofNat k).toNat = k := by
 rw [UInt8.toNat_ofNat']; omega
def byteOf : zab -> Option Nat
 | .int .u8 (.ofNat k) => zaj (Nat.blt k 256) (some k)
 | _ => none
theorem z2d {v : zab} {k : Nat} (h : byteOf v = some k) : v = .int .u8 (k : Int) /\ k < 256 := by
 unfold byteOf at h; split at h
 ·rw [zae] at h
  obtain ⟨h1, h2⟩ := h
  cases h2; exact ⟨rfl, zc8.1 h1⟩
 ·cases h
def zn4 (base U : Nat) (args : List zab) (H : zaf) : Option (zab × zaf) :=
 match args with
 | [.ptr b 0] => ob (zaq H b) fun c => ob (c.1.get 1) fun v => ob v.asSlice fun s => ob (zaq H s.1) fun d => ob (d.1.many s.2.2.1 0) fun m => ob (zd4 byteOf m) fun l =>
  zaj (!Nat.blt s.1 base && Nat.beq s.2.1 0 && Nat.blt 0 s.2.2.1 && Nat.ble s.2.2.1 s.2.2.2 && Nat.ble s.2.2.1 d.2.1 && Nat.blt s.2.2.1 1000000000 && (match d.2.2 with | some (.ty t) => Nat.beq t U | _ => false)) (some (.str l, ⟨H.next, H.t.del s.1⟩))
 | _ => none
theorem z5u {f : Nat} (L : Lays.n169 P ρ) (X : Builder.Extra P ρ) (hf : ρ.f 169 = f) {base : Nat} (hbase : B <= base)
  (henter : ∀ (w : World) (a : Array Value), (callFunc f a).run P w = .ok (.enter f a) w) {args : List zab} {args' : Array Value} {v : zab} {H' : zaf} (hH : zbf B N μ H w) (hv : zn4 base (ρ.t 5) args H = some (v, H')) (hl : zbk μ args args'.toList) :
  (callFunc f args').run P w = .ok (.enter f args') w /\ Calls P f args' w fun e w' => ∃ v' μ', e = .returned v' /\ μ.le μ' /\ zbf B N μ' H' w' /\ Below N w w' /\ zan μ' v v' := by
 refine ⟨henter w args', ?_⟩
 subst hf; unfold zn4 at hv; split at hv
 case h_2 => cases hv
 rename_i b; rw [zbk] at hl; obtain ⟨u, r, h1, h2, h3⟩ := hl
 rw [zbk] at h3; subst h3; rw [zan] at h2; obtain ⟨i, hi, rfl⟩ := h2
 have ha : args' = #[.pointer (some ⟨i.b, 0, none⟩)] := by apply Array.toList_inj.1; rw [h1]
 subst ha; simp only [zad, zae, yac, ybq, zdq] at hv; obtain ⟨⟨c, n, lo⟩, hc, v0, h0, ⟨g, off, len, cap⟩, rfl, ⟨d, m, lo2⟩, hd, ml, hm, l, hlm, ⟨⟨⟨⟨⟨⟨q1, q2⟩, q3⟩, q4⟩, q5⟩, q6⟩, q7⟩, hv⟩ := hv
 cases hv; have q2 : off = 0 := zcy.1 q2
 have q3 : 0 < len := zc8.1 q3
 have q4 : len <= cap := zh2.1 q4
 have q5 : len <= m := zh2.1 q5
 have q6 : len < 1000000000 := zc8.1 q6
 subst q2; have hx := zdd hc
 obtain ⟨o, g1, cs, E, fr, rfl, g3, g4, g5, g6⟩ := hH.blk _ _ _ hx hi
 obtain ⟨hn, u, hu, hr⟩ := g5 1 _ h0
 rw [zan] at hr; rcases hr with ⟨j, cap', hj, rfl, hcap, _, _⟩ | ⟨_, hz, _⟩
 case inr => exact absurd (show len = 0 from hz) (by omega)
 have hcap : cap <= cap' := hcap
 have hx2 := zdd hd
 obtain ⟨o2, k1, cs2, E2, fr2, rfl, k3, k4, k5, k6⟩ := hH.blk _ _ _ hx2 hj
 have k3 : m <= cs2.size := k3
 have hE : E2 = ρ.t 5 := by
  cases lo2 with
  | none => cases q7
  | some lo2 =>
   cases lo2 with
   | sz _ => cases q7
   | ty t => exact (k6.2.2.2 t rfl).trans (zcy.1 q7)
 subst hE; have hown : B <= g := by
  have : ¬ g < base := fun k => by rw [zc8.2 k] at q1; cases q1
  omega
 have hNb := hH.own g j hown hj
 obtain ⟨m1, m2⟩ := Tr.many_some _ _ _ _ hm
 obtain ⟨hll, hla⟩ := zzev hlm
 let bs : List UInt8 := l.map UInt8.ofNat
 have hbl : bs.length = len := by simp [bs, hll, m1]
 have hby : ∀ (t : Nat) k, l[t]? = some k -> ml[t]? = some (.int .u8 (k : Int)) /\ k < 256 := by
  intro t k ht; obtain ⟨y, e1, e2⟩ := hla t k ht
  obtain ⟨e3, e4⟩ := z2d e2
  exact ⟨by rw [e1, e3], e4⟩
 have hcell : ∀ t x, bs[t]? = some x -> w.cell? ((⟨j.b, 0, none⟩ : Addr).add t) = some (.int .u8 x.toNat) := by
  intro t x ht; simp only [bs, yav, Option.map_eq_some_iff] at ht; obtain ⟨k, e1, rfl⟩ := ht
  obtain ⟨e2, e3⟩ := hby t k e1
  have hg := m2 t (by rw [<- m1]; exact (yad.1 e2).1)
  rw [yax, e2] at hg; obtain ⟨_, y, e4, e5⟩ := k5 t _ hg
  rw [zan] at e5; subst e5; rw [zll]; unfold World.cell?
  simp only [k1]; simp only [yax]; show cs2[t]? = _
  rw [e4, zzgs e3]
 have c1 : w.cell? ⟨i.b, 1, none⟩ = some (.slice (some ⟨j.b, 0, none⟩) bs.length cap') := by
  unfold World.cell?; rw [g1, hbl]; simpa using hu
 have hne : bs ≠ [] := by intro e; rw [e] at hbl; simp at hbl; omega
 refine (z6r L X i.b j.b cap' cs2.size bs w c1 hne (by omega) (by unfold World.shape?; rw [k1]) (by omega) (by omega) hcell).mono ?_
 rintro e w' ⟨rfl, rfl⟩
 have hfz : ∃ o', w.drew.freeze ⟨j.b, 0, none⟩ bs.length = World.setBlk w.drew j.b o' := by
  unfold World.freeze; rw [if_neg (by omega)]
  refine ⟨.cells cs2 (ρ.t 5) (if fr2.1 == fr2.2 then (0, 0 + bs.length) else (min fr2.1 0, max fr2.2 (0 + bs.length))), ?_⟩
  unfold World.setBlk; congr 1
  apply Array.ext_getElem?
  intro k; rw [Array.getElem?_modify, ybt]; have hk1 : w.drew.heap[j.b]? = some (.cells cs2 (ρ.t 5) fr2) := k1
  by_cases e : j.b = k
  ·subst e
   have hg := (yaf.1 hk1).1
   rw [if_pos rfl, if_pos rfl, if_pos hg, hk1]; rfl
  ·rw [if_neg e, if_neg e]
 obtain ⟨o', ho'⟩ := hfz
 rw [ho']; have hdrop := hH.drew.drop g (fun x t e => by have := (hH.pnd _ _ _ e).1; rw [hj] at this; cases this)
 refine ⟨_, μ, rfl, μ.le_refl, hdrop.scratch hNb.1 (fun a x k hax hak e => ?_) o', (zgy).trans (zc0 hNb.1), ?_⟩
 ·have hax' : (if a = g then none else H.t.get a) = some x := by rw [<- Tr.get_del]; exact hax
  split at hax'
  ·cases hax'
  ·rename_i hne
   by_cases hab : B <= a
   ·exact hne (hH.inj a g x _ k j hax' hx2 hak hj hab hown e)
   ·have := (hH.low a x k (by omega) hax' hak).1
    omega
 ·rw [zan]
  refine ⟨_, rfl, ?_⟩
  unfold zb0; show bs.map UInt8.toNat = l
  simp only [bs, List.map_map]; have : ∀ k ∈ l, (UInt8.toNat ∘ UInt8.ofNat) k = k := by
   intro k hk; obtain ⟨t, ht⟩ := List.mem_iff_getElem?.1 hk
   exact zzgs (hby t k ht).2
  rw [List.map_congr_left this, List.map_id']
end
end Go.Am
set_option maxRecDepth 100000
namespace Go.Am
open Go Go.RowKit
def zr6 (c : Nat) : List Nat -> Option Nat
 | [] => none
 | x :: r => bif Nat.beq x c then some 0 else ob (zr6 c r) fun n => some (n + 1)
def zhi (sub : List Nat) : List Nat -> Bool
 | [] => sub.isEmpty
 | b :: l => bif z6b sub (b :: l) then true else zhi sub l
def zn5 (a : List zab) (_ : zaf) : Option zab := match a with | [.str s, .int .u8 (.ofNat c)] => zaj (Nat.blt c 256) (some (.int .i64 (match zr6 c s with | some n => .ofNat n | none => .negSucc 0))) | _ => none
def zim (a : List zab) (_ : zaf) : Option zab := match a with | [.str s, .str c] => zaj (Nat.blt (zbw s) 4294967281) (some (.bool (zhi c s))) | _ => none
def glob (g : Nat) (l : List zab) (t : Tr zak) : Tr zak := t.set g (.cells (Tr.ofList l) (zbw l) none)
def fin : zho -> Nat
 | .next _ => 0
 | .done v _ => match v.asBool with
  | some true => 1
  | _ => 2
 | .fail n => 100 + n
def zmh (C : Ctx) (f : Nat) (args : List zab) (H : zaf) : zho := match zfl C f args false with
 | some fr => .next ⟨fr, [], H⟩
 | none => .fail 0
theorem z32 : ∀ (c s : List UInt8), z6b (c.map UInt8.toNat) (s.map UInt8.toNat) = c.isPrefixOf s
 | [], _ => by simp [z6b]
 | _ :: _, [] => rfl
 | a :: x, b :: y => by
  simp only [ybn, z6b, zal, z32 x y, List.isPrefixOf]; by_cases h : a = b
  ·subst h; simp
  ·have : ¬ Nat.beq a.toNat b.toNat = true := fun e => h (UInt8.toNat_inj.1 (zcy.1 e))
   rw [if_neg this]; simp [h]
theorem zsj (c : List UInt8) : ∀ s : List UInt8, zhi (c.map UInt8.toNat) (s.map UInt8.toNat) = Lib.contains s c
 | [] => by cases c <;> simp [zhi, Lib.contains, Lib.index]
 | b :: l => by
  have ih := zsj c l
  have hp := z32 c (b :: l)
  simp only [ybn] at hp ⊢
  simp only [zhi, zal, hp, ih]; unfold Lib.contains; have ge := Lib.index_ge l c
  rw [Lib.index]; split
  ·simp
  ·split
   ·rename_i e; simp at e; simp [e]
   ·rename_i e; simp at e; simp; omega
theorem z39 (c : UInt8) : ∀ s : List UInt8, (match zr6 c.toNat (s.map UInt8.toNat) with | some n => Int.ofNat n | none => .negSucc 0) = Lib.indexByte s c
 | [] => rfl
 | b :: l => by
  have ih := z39 c l
  simp only [ybn, zr6, zal]; rw [Lib.indexByte]; by_cases h : b = c
  ·subst h; simp
  ·have : ¬ Nat.beq b.toNat c.toNat = true := fun e => h (UInt8.toNat_inj.1 (zcy.1 e))
   rw [if_neg this]; simp only [beq_iff_eq, h, if_false]
   cases hx : zr6 c.toNat (l.map UInt8.toNat) with
   | none => rw [hx] at ih; rw [<- ih]; rfl
   | some n =>
    rw [hx] at ih; rw [<- ih]; simp only [zac]; rw [if_neg (by intro e; simp at e)]
    rfl
def zzb4 : zce -> zce -> Bool
 | .bool, .bool => true
 | .int k, .int j => kEq k j
 | .string, .string => true
 | .ptr a, .ptr b => Nat.beq a b
 | .slice a, .slice b => Nat.beq a b
 | .arr a c, .arr b d => Nat.beq a b && Nat.beq c d
 | .map a c, .map b d => Nat.beq a b && Nat.beq c d
 | .struct f, .struct g => decide (f = g)
 | .func, .func => true
 | .iface, .iface => true
 | .other, .other => true
 | _, _ => false
theorem zzb3 {a b : zce} (h : zzb4 a b = true) : a = b := by
 cases a <;> cases b <;> simp [zzb4, zev] at h ⊢ <;> first | exact h | exact ⟨h.1, h.2⟩
def eqTy (a b : ATy) : Bool := zzb4 a.desc b.desc && Nat.beq a.size b.size && Nat.beq a.bytes b.bytes && same.sames 10 a.zero b.zero && bEq a.eqOk b.eqOk
theorem zzke {a b : ATy} (h : eqTy a b = true) : a = b := by
 obtain ⟨d, s, y, z, e⟩ := a
 obtain ⟨d', s', y', z', e'⟩ := b
 simp only [eqTy, yac, zcy, znh, beq_iff_eq] at h; obtain ⟨⟨⟨⟨h1, h2⟩, h3⟩, h4⟩, h5⟩ := h
 rw [zzb3 h1, h2, h3, zvr _ _ _ h4, h5]
def zzkw {α : Type} (p : Nat -> α -> Bool) : Tr α -> (Nat -> Nat) -> Bool
 | .leaf, _ => true
 | .node l v r, f => (match v with | some v => p (f 0) v | none => true) && zzkw p l (fun m => f (2 * m + 1)) && zzkw p r (fun m => f (2 * m + 2))
theorem zzkv {α : Type} {p : Nat -> α -> Bool} : ∀ (t : Tr α) (f : Nat -> Nat), zzkw p t f = true -> ∀ (n : Nat) v, t.get n = some v -> p (f n) v = true := by
 intro t; induction t with
 | leaf => intro f _ n v h; rw [Tr.get_leaf] at h; cases h
 | node l x r ihl ihr =>
  intro f h n v hv; simp only [zzkw, yac] at h; rw [Tr.get_node] at hv; split at hv
  ·rename_i e; subst e
   have := h.1.1
   rw [hv] at this; exact this
  ·rename_i hn
   split at hv
   ·rename_i e
    have := ihl _ h.1.2 _ v hv
    rw [show 2 * (n / 2) + 1 = n by omega] at this
    exact this
   ·rename_i e
    have := ihr _ h.2 _ v hv
    rw [show 2 * (n / 2 - 1) + 2 = n by omega] at this
    exact this
def zziy (l : List (List UInt8)) : List Value := l.map fun b => .string ⟨b.toArray⟩
def zzfe (l : List Int) : List Value := l.map fun n => .int .i64 n
def mu0 : Mu := ⟨fun g => if g < 256 then some ⟨g, true, 0, 0, true⟩ else none, fun _ => none⟩
theorem zvh {μ : Mu} : ∀ l : List (List UInt8), zbk μ (l.map fun b => zab.str (b.map UInt8.toNat)) (zziy l)
 | [] => .nil
 | b :: l => .cons (by rw [zan]; exact ⟨⟨b.toArray⟩, rfl, by simp [zb0]⟩) (zvh l)
theorem z38 {μ : Mu} : ∀ l : List Int, zbk μ (l.map fun n => zab.int .i64 n) (zzfe l)
 | [] => .nil
 | b :: l => .cons (by rw [zan]) (z38 l)
theorem znc {μ : Mu} {g : Nat} {l : List zab} {vs : List Value} (h : zbk μ l vs) (t : TypeId) : znt μ ⟨g, true, 0, 0, true⟩ (.cells (Tr.ofList l) (zbw l) none) (.cells vs.toArray t (0, 0)) := h.rel_one rfl
theorem zzka {o : zho} (h : fin o = 1) : ∃ H, o = .done (.bool true) H := by
 cases o with
 | next s => cases h
 | fail n => simp only [fin] at h; omega
 | done v H =>
  cases hv : v.asBool with
  | none => simp only [fin, hv] at h; omega
  | some b => cases b with
   | false => simp only [fin, hv] at h; omega
   | true => exact ⟨H, by rw [zdv.1 hv]⟩
end Go.Am
