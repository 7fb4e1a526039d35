/- Trees: slots, regions. -/
import Derived.Lib.ItoaNum
import Derived.Test.YtbgilkcahebbfaaGreatDoorA06
set_option linter.all false
noncomputable section
namespace Go.Am
open Go Go.RowKit
structure zct (base : Nat) (X0 : Xt) (kf : Nat) (ν : Nat -> Nat) (X : Xt) (st : TSt) (tm : Tm) (HA : zaf) (t : Tr zam) : Prop where
 ov : Ov base t X HA
 le : XLe X0 X
 k : st.tm.k = kf
 kA : tm.k = kf
 tms : ∀ i v, st.tm.get i = some v -> tm.get i = some v
 ads : ∀ i p, zfr i st.ad = some p -> tm.get i = some (.ptr (ν p.1) p.2)
 lo : z9x base X0 X ν st.lo
 inj : ∀ d d' l l', st.lo.get d = some l -> st.lo.get d' = some l' -> ν d = ν d' -> d = d'
theorem zel {i : Nat} {a : Nat × Nat × Nat} {l : List (Nat × Nat × Nat)} : zfr i (a :: l) = if i = a.1 then some a.2 else zfr i l := by
 show Bool.rec (motive := fun _ => Option (Nat × Nat)) (zfr i l) (some a.2) (Nat.beq i a.1) = _
 rw [zmg]; simp only [zck]
theorem z9p {i : Nat} {p : Nat × Nat} : ∀ {l : List (Nat × Nat × Nat)}, zfr i l = some p -> (i, p.1, p.2) ∈ l := by
 intro l; induction l with
 | nil => intro h; cases h
 | cons a l ih =>
  intro h; rw [zel] at h; split at h
  ·rename_i e; cases h; rw [e]; exact yaz
  ·exact yas _ (ih h)
theorem z0u {n : Nat} {tm : Tm} {dst : Option Nat} {v : zab} : (putA n tm dst v).k = tm.k := by
 unfold putA putB
 cases dst with
 | none => rfl
 | some d =>
  simp only [zza9, zak]; split
  ·unfold Tm.set; rw [zmg]; split <;> rfl
  ·rfl
theorem Tm.set_k {tm : Tm} {i : Nat} {v : zab} : (tm.set i v).k = tm.k := by unfold Tm.set; rw [zmg]; split <;> rfl
section
variable {W J : zgy} {t : Tr zam} {X X0 : Xt} {HA : zaf} {C : Ctx} {A : Tr zbv} {ν : Nat -> Nat} {Q : zay} {kf n : Nat} {st : TSt} {tm : Tm}
theorem zct.put (h : zct C.base X0 kf ν X st tm HA t) {dst : Option Nat} {v : zab} {lt : Bool} {κ : KT} (hw : wpT C.base W J (z0f n dst v lt st κ) t Q) :
  ∃ st', zct C.base X0 kf ν X st' (putA n tm dst v) HA t /\ wpT C.base W J (κ st') t Q := by
 unfold z0f at hw
 cases dst with
 | none => exact ⟨st, h, hw⟩
 | some d =>
  simp only [zak] at hw; split at hw
  ·rename_i hd
   rw [zfm] at hw; obtain ⟨h1, h2⟩ := hw
   refine ⟨_, ?_, h2⟩
   refine ⟨h.ov, h.le, (by show (st.tm.set d v).k = kf; rw [Tm.set_k]; exact h.k), by rw [z0u]; exact h.kA, ?_, ?_, h.lo, h.inj⟩
   ·intro i u hi
    have hi2 : (st.tm.set d v).get i = some u := hi
    rw [Tm.get_set] at hi2; rw [zbk]; split at hi2
    ·rename_i e; rw [if_pos ⟨by rw [e], by rw [e]; exact zcz.1 hd⟩]; exact hi2
    ·rename_i e
     rw [if_neg (fun hh => e (by injection hh.1 with e1; exact e1.symm))]
     exact h.tms i u hi2
   ·intro i p hi
    rw [zbk, if_neg]
    ·exact h.ads i p hi
    ·rintro ⟨e, _⟩
     injection e with e
     subst e; rw [hi] at h1
     cases h1
  ·rename_i hd
   refine ⟨st, ?_, hw⟩
   have : putA n tm (some d) v = tm := by
    unfold putA putB; simp only [zza9, zak]; rw [if_neg hd]
   rw [this]; exact h
theorem zct.putA (h : zct C.base X0 kf ν X st tm HA t) {dst : Option Nat} {d off : Nat} {κ : KT} (hw : wpT C.base W J (zze0 n dst d off st κ) t Q) :
  ∃ st', zct C.base X0 kf ν X st' (Am.putA n tm dst (.ptr (ν d) off)) HA t /\ wpT C.base W J (κ st') t Q := by
 unfold zze0 at hw; rw [za4] at hw; obtain ⟨i, h1, hw⟩ := hw
 subst h1; simp only [zfm] at hw; obtain ⟨h2, h3, h4⟩ := hw
 refine ⟨_, ?_, h4⟩
 refine ⟨h.ov, h.le, h.k, by rw [z0u]; exact h.kA, ?_, ?_, h.lo, h.inj⟩
 ·intro j u hj
  rw [zbk, if_neg]
  ·exact h.tms j u hj
  ·rintro ⟨e, _⟩
   injection e with e
   subst e; have hj : st.tm.get i = some u := hj
   rw [hj] at h3
   cases h3
 ·intro j p hj
  have hj : zfr j ((i, d, off) :: st.ad) = some p := hj
  rw [zel] at hj; rw [zbk]; split at hj
  ·rename_i e; cases hj; rw [if_pos ⟨by rw [e], by rw [e]; exact zcz.1 h2⟩]
  ·rename_i e
   rw [if_neg (fun hh => e (by injection hh.1 with e1; exact e1.symm))]
   exact h.ads j p hj
theorem zct.new (h : zct C.base X0 kf ν X st tm HA t) {d : Nat} {l : List zab} {κ : KT} (hw : wpT C.base W J (tNew n d l st κ) t Q) :
  ∃ st' ν' X', zct C.base X0 kf ν' X' st' (Am.putA n tm (some d) (.ptr HA.next 0)) (zaw HA l none) t /\ wpT C.base W J (κ st') t Q := by
 unfold tNew at hw; simp only [zfm] at hw; obtain ⟨h1, h2, h3, h4⟩ := hw
 have hx := h.ov.nextX
 refine ⟨_, fun c => if c = d then HA.next else ν c, fun c => if c = HA.next then some (.cells (Tr.ofList l) (zbp l) none) else X c, ?_, h4⟩
 refine ⟨h.ov.newX _, ?_, h.k, by rw [z0u]; exact h.kA, ?_, ?_, ?_, ?_⟩
 ·intro b y hb
  have : X b = some y := h.le b y hb
  show (if b = HA.next then _ else X b) = some y
  rw [if_neg, this]; intro e; rw [e, hx] at this; cases this
 ·intro j u hj
  rw [zbk, if_neg]
  ·exact h.tms j u hj
  ·rintro ⟨e, _⟩
   injection e with e
   subst e; have hj : st.tm.get d = some u := hj
   rw [hj] at h2
   cases h2
 ·intro j p hj
  have hj : zfr j ((d, d, 0) :: st.ad) = some p := hj
  rw [zel] at hj; rw [zbk]; split at hj
  ·rename_i e
   cases hj; rw [if_pos ⟨by rw [e], by rw [e]; exact zcz.1 h1⟩]
   show some (zab.ptr HA.next 0) = some (zab.ptr (if d = d then HA.next else ν d) 0)
   rw [if_pos rfl]
  ·rename_i e
   rw [if_neg (fun hh => e (by injection hh.1 with e1; exact e1.symm))]
   have hm := z9p hj
   unfold zzdu at h3; rw [zda, ybc] at h3; have := h3 _ hm
   simp only [zak] at this; have hne : p.1 ≠ d := by
    intro e2; rw [if_pos (zck.2 e2)] at this
    exact e (zck.1 this)
   show Tm.get tm j = some (zab.ptr (if p.1 = d then HA.next else ν p.1) p.2)
   rw [if_neg hne]; exact h.ads j p hj
 ·intro c m hc
  have hc : (st.lo.set d l).get c = some m := hc
  rw [Tr.get_set] at hc; show X0 (if c = d then HA.next else ν c) = none /\ C.base <= (if c = d then HA.next else ν c) /\ ∃ c', (if (if c = d then HA.next else ν c) = HA.next then some (zam.cells (Tr.ofList l) (zbp l) none) else X (if c = d then HA.next else ν c)) = some (.cells c' m.length none) /\ ∀ j a, m[j]? = some a -> c'.get j = some a
  split at hc
  ·rename_i e
   cases hc; simp only [e, if_true]; refine ⟨?_, h.ov.base, Tr.ofList l, by rw [zav], fun j a hj => by rw [Tr.get_ofList]; exact hj⟩
   cases hq : X0 HA.next with
   | none => rfl
   | some z => have := h.le _ _ hq; rw [hx] at this; cases this
  ·rename_i e
   simp only [if_neg e]; obtain ⟨g1, g2, c', g3, g4⟩ := h.lo c m hc
   refine ⟨g1, g2, c', ?_, g4⟩
   rw [if_neg, g3]; intro e2; rw [e2, hx] at g3; cases g3
 ·intro c c' m m' hc hc' he
  have hc : (st.lo.set d l).get c = some m := hc
  have hc' : (st.lo.set d l).get c' = some m' := hc'
  have he : (if c = d then HA.next else ν c) = (if c' = d then HA.next else ν c') := he
  rw [Tr.get_set] at hc hc'
  split at hc <;> split at hc'
  ·rename_i e1 e2; rw [e1, e2]
  ·rename_i e1 e2
   rw [if_pos e1, if_neg e2] at he; obtain ⟨_, _, _, g3, _⟩ := h.lo c' m' hc'
   rw [<- he, hx] at g3; cases g3
  ·rename_i e1 e2
   rw [if_neg e1, if_pos e2] at he; obtain ⟨_, _, _, g3, _⟩ := h.lo c m hc
   rw [he, hx] at g3; cases g3
  ·rename_i e1 e2
   rw [if_neg e1, if_neg e2] at he; exact h.inj c c' m m' hc hc' he
theorem zct.setLo (h : zct C.base X0 kf ν X st tm HA t) {d : Nat} {l l' : List zab} {c' : Tr zab} (h1 : st.lo.get d = some l) (h2 : l'.length = l.length) (h3 : ∀ j a, l'[j]? = some a -> c'.get j = some a) :
  ∃ X', zct C.base X0 kf ν X' ⟨st.tm, st.ad, st.lo.set d l', st.lit⟩ tm (setBlk HA (ν d) (.cells c' l.length none)) t := by
 obtain ⟨g1, g2, c, g3, g4⟩ := h.lo d l h1
 refine ⟨_, h.ov.setX g3 _, ?_, h.k, h.kA, h.tms, h.ads, ?_, ?_⟩
 ·intro b y hb
  show (if b = ν d then _ else X b) = some y
  rw [if_neg]
  ·exact h.le b y hb
  ·intro e; rw [e, g1] at hb; cases hb
 ·intro e m he
  have he : (st.lo.set d l').get e = some m := he
  rw [Tr.get_set] at he; split at he
  ·rename_i e1
   cases he; subst e1; exact ⟨g1, g2, c', by show (if ν e = ν e then _ else _) = _; rw [if_pos rfl, h2], h3⟩
  ·rename_i e1
   obtain ⟨k1, k2, k3, k4, k5⟩ := h.lo e m he
   refine ⟨k1, k2, k3, ?_, k5⟩
   show (if ν e = ν d then _ else X (ν e)) = _
   rw [if_neg, k4]; intro e2; exact e1 (h.inj e d m l he h1 e2)
 ·intro e e' m m' he he' hv
  have he : (st.lo.set d l').get e = some m := he
  have he' : (st.lo.set d l').get e' = some m' := he'
  rw [Tr.get_set] at he he'
  have x1 : ∃ q, st.lo.get e = some q := by
   split at he
   ·rename_i e1; rw [e1]; exact ⟨l, h1⟩
   ·exact ⟨m, he⟩
  have x2 : ∃ q, st.lo.get e' = some q := by
   split at he'
   ·rename_i e1; rw [e1]; exact ⟨l, h1⟩
   ·exact ⟨m', he'⟩
  exact h.inj e e' _ _ x1.choose_spec x2.choose_spec hv
theorem zct.later (h : zct C.base X0 kf ν X st tm HA t) {X' : Xt} {HA' : zaf} {t' : Tr zam} (ho : Ov C.base t' X' HA') (hx : XLe X X') : zct C.base X0 kf ν X' st tm HA' t' :=
 ⟨ho, h.le.trans hx, h.k, h.kA, h.tms, h.ads, fun d l hd => by
  obtain ⟨g1, g2, c, g3, g4⟩ := h.lo d l hd
  exact ⟨g1, g2, c, hx _ _ g3, g4⟩, h.inj⟩
theorem zoq {ty : Nat} {v : zab} (h : fitB C ty v = true) : zzcd C ty v := by
 unfold fitB at h; unfold zzcd
 cases hy : C.tys.get ty with
 | none => trivial
 | some y =>
  rw [hy] at h; simp only at h ⊢
  unfold fitD
  cases hd : y.desc <;> rw [hd] at h <;> simp only at h ⊢
  case bool =>
   have := zck.1 h
   cases v <;> simp only [zab.tag] at this <;> first
    | exact ⟨_, rfl⟩
    | (cases this; done)
  case int k =>
   cases v <;> simp only [zab.asIntK] at h <;> first
    | exact ⟨_, by rw [zev.1 h]⟩
    | (cases h; done)
  case string =>
   have := zck.1 h
   cases v <;> simp only [zab.tag] at this <;> first
    | exact ⟨_, rfl⟩
    | (cases this; done)
theorem zt9 {ty : Nat} {v : zab} (h : (!Nat.ble (zj6 C ty) 2) = true) : zzcd C ty v := by
 unfold zzcd; unfold zj6 at h
 cases hy : C.tys.get ty with
 | none => trivial
 | some y =>
  rw [hy] at h; simp only at h ⊢
  unfold fitD
  cases hd : y.desc <;> rw [hd] at h <;> first
   | trivial
   | (simp only [zb9.tag] at h; exact absurd h (by decide))
theorem zy8 : ∀ (zs l : List zab) (pre : List zab), zly zs l = true -> zmt zs (cellsOf (pre ++ l)) pre.length = l := by
 intro zs; induction zs with
 | nil => intro l pre h; cases l with
  | nil => rfl
  | cons a l => cases h
 | cons z zs ih =>
  intro l pre h
  cases l with
  | nil => cases h
  | cons a l =>
   unfold zly at h; rw [yac] at h; show z60 z (cellsOf (pre ++ a :: l)) pre.length :: zmt zs (cellsOf (pre ++ a :: l)) (pre.length + 1) = a :: l
   have e2 := ih l (pre ++ [a]) h.2
   rw [yba] at e2; simp only [List.cons_append, List.nil_append, yah, yao, yay] at e2; rw [e2]; congr 1
   have hg : (pre ++ a :: l)[pre.length]? = some a := by simp
   have h1 := h.1
   cases z <;> simp only [zzcc] at h1 <;> simp only [z60, cellsOf, zsu, zzfy, strAt, z4p, hg] <;> try (cases h1; done)
   case bool =>
    have := zck.1 h1
    cases a <;> simp only [zab.tag] at this <;> first
     | rfl
     | (cases this; done)
   case int k _ =>
    cases a <;> simp only [zab.asIntK] at h1 <;> first
     | (rw [zev.1 h1]; done)
     | (cases h1; done)
   case str =>
    have := zck.1 h1
    cases a <;> simp only [zab.tag] at this <;> first
     | rfl
     | (cases this; done)
theorem z0g {ty : Nat} {v : zab} {K : zab -> T} (h : wpT C.base W J (z5c C ty v K) t Q) : zzcd C ty v /\ wpT C.base W J (K v) t Q := by
 unfold z5c at h; unfold zzcd; have agg : ∀ zs, wpT C.base W J (bif Nat.ble (zbp zs) 40 then .asG zs v fun X => K (.agg (zmt zs X 0)) else K v) t Q -> wpT C.base W J (K v) t Q := by
  intro zs h; rw [zak] at h; split at h
  ·have h : zd0 (z96 zs v) fun X => wpT C.base W J (K (.agg (zmt zs X 0))) t Q := h
   rw [zer] at h; obtain ⟨X, h1, h2⟩ := h
   unfold z96 at h1; simp only [zac, zae] at h1; obtain ⟨l, h3, h4, h5⟩ := h1
   cases h5; have := zy8 zs l [] h4
   simp only [List.nil_append, yay] at this; rw [this] at h2; rw [zgc.1 h3]; exact h2
  ·exact h
 cases hy : C.tys.get ty with
 | none => rw [hy] at h; exact ⟨trivial, h⟩
 | some y =>
  rw [hy] at h; simp only at h ⊢
  unfold fitD
  cases hd : y.desc <;> rw [hd] at h <;> simp only at h ⊢
  case bool =>
   have h : zd0 v.asBool fun n => wpT C.base W J (K (.bool n)) t Q := h
   rw [zer] at h; obtain ⟨b, h1, h2⟩ := h
   rw [zdd.1 h1]; exact ⟨⟨b, rfl⟩, h2⟩
  case int k =>
   have h : zd0 (intK k v) fun n => wpT C.base W J (K (.int k n)) t Q := h
   rw [zer] at h; obtain ⟨b, h1, h2⟩ := h
   unfold intK at h1; simp only [zac, zae] at h1; obtain ⟨p, h3, h4, h5⟩ := h1
   cases h5; rw [zcl.1 h3, zev.1 h4]; exact ⟨⟨_, rfl⟩, h2⟩
  case string =>
   have h : zd0 v.asStr fun n => wpT C.base W J (K (.str n)) t Q := h
   rw [zer] at h; obtain ⟨b, h1, h2⟩ := h
   rw [zc5.1 h1]; exact ⟨⟨b, rfl⟩, h2⟩
  all_goals first
   | exact ⟨trivial, agg _ h⟩
   | exact ⟨trivial, h⟩
theorem zk6 {g lt : Bool} {v : zab} {K : zab -> Bool -> T} (h : wpT C.base W J (zrp g lt v K) t Q) : ∃ lt', wpT C.base W J (K v lt') t Q := by
 unfold zrp at h
 cases g with
 | false => exact ⟨lt, h⟩
 | true =>
  cases lt with
  | true => exact ⟨true, h⟩
  | false =>
   simp only [cond_true, cond_false] at h; rw [za4] at h; obtain ⟨b, h1, h2⟩ := h
   rw [zdd.1 h1]; have h2 : if b = true then wpT C.base W J (K (.bool true) true) t Q else wpT C.base W J (K (.bool false) true) t Q := h2
   cases b with
   | true => exact ⟨true, h2⟩
   | false => exact ⟨true, h2⟩
theorem zoz (h : zct C.base X0 kf ν X st tm HA t) {g : Option (Nat × Bool)} {all : Array Oper} {w : Bool} (hw : za1 g all st.tm = some w) : za1 g all tm = some w := by
 unfold za1 z4m at hw ⊢
 cases g with
 | none => exact hw
 | some jw =>
  simp only [zu2] at hw ⊢
  rw [zac] at hw ⊢
  obtain ⟨d, h1, hw⟩ := hw
  refine ⟨d, h1, ?_⟩
  rw [zac] at hw ⊢
  obtain ⟨v, h2, hw⟩ := hw
  exact ⟨v, h.tms _ _ h2, hw⟩
def SK (C : Ctx) (W J : zgy) (X0 : Xt) (kf : Nat) (Q : zay) (κ : KT) (m : Tm -> zaf -> zbg) : Prop := ∀ st tm HA t X ν, zct C.base X0 kf ν X st tm HA t -> wpT C.base W J (κ st) t Q -> Res C.base X0 Q (m tm HA)
theorem Res.norm {ty : Nat} {v : zab} {K : zab -> zbg} (hf : zzcd C ty v) (h : Res C.base X0 Q (K v)) : Res C.base X0 Q (zhe C ty v K) := by
 obtain ⟨u, t', HA', X', h1, h2⟩ := h
 exact ⟨u, t', HA', X', zbz.2 ⟨hf, h1⟩, h2⟩
theorem Res.ob {α : Type} {x : Option α} {a : α} {K : α -> zbg} (hx : x = some a) (h : Res C.base X0 Q (K a)) : Res C.base X0 Q (Am.ob x K) := by subst hx; exact h
theorem z5y (hW : zje C A W) {e eA : Env} {ae : zux} (he : zni e eA) (ha : znj ν ae eA) (hst : zct C.base X0 kf ν X st tm HA t) {la : List Nat} {all : Array Oper} {o : Oper} {κ : KT} {m : Tm -> zaf -> zbg}
  (hκ : ∀ st' tm' HA' t' X' ν', (la = [] -> ν' = ν) -> zct C.base X0 kf ν' X' st' tm' HA' t' -> (∃ v, tm' = putA n tm o.dst v) -> wpT C.base W J (κ st') t' Q -> Res C.base X0 Q (m tm' HA'))
  (h : wpT C.base W J (tH C la o.dst o.op e ae st.lo (kop C all n o e st κ) (klo C n o st κ)) t Q) :
  Res C.base X0 Q (zio (fnV C A) ((aop o.op).f C eA HA) HA fun v H' => zhe C o.type v fun v => m (putA n tm o.dst v) H') := by
 refine tH_ok hW he ha hst.ov hst.lo h ?_ ?_ ?_ ?_ ?_
 ·intro v t' HA' X' ho hx hk
  have hk : wpT C.base W J (z5c C o.type v fun v => zrp (zt1 all.toList o.dst all.toList) (zzbo o.op e st.lit) v fun v lt => z0f n o.dst v lt st κ) t' Q := hk
  obtain ⟨h1, h2⟩ := z0g hk
  obtain ⟨lt', h3⟩ := zk6 h2
  obtain ⟨st', h4, h5⟩ := (hst.later ho hx).put h3
  exact Res.norm h1 (hκ _ _ _ _ _ _ (fun _ => rfl) h4 ⟨v, rfl⟩ h5)
 ·intro v t' HA' X' ho hx hk
  obtain ⟨h1, h2⟩ := zfm.1 hk
  obtain ⟨lt', h3⟩ := zk6 h2
  obtain ⟨st', h4, h5⟩ := (hst.later ho hx).put h3
  exact Res.norm (zoq h1) (hκ _ _ _ _ _ _ (fun _ => rfl) h4 ⟨v, rfl⟩ h5)
 ·intro d off hk
  obtain ⟨h1, h2⟩ := zfm.1 hk
  obtain ⟨st', h4, h5⟩ := hst.putA h2
  exact Res.norm (zt9 h1) (hκ _ _ _ _ _ _ (fun _ => rfl) h4 ⟨_, rfl⟩ h5)
 ·intro d l hd hk
  obtain ⟨h1, h2⟩ := zfm.1 hk
  obtain ⟨st', ν', X', h4, h5⟩ := hst.new h2
  have e := z7f hd
  rw [e]; refine Res.norm (zt9 h1) (hκ _ _ _ _ _ _ (fun hl => ?_) h4 ⟨_, by rw [e]⟩ h5)
  rw [hl, e] at hd
  cases hd
 ·intro d l l' c' h1 h2 h3 hk
  obtain ⟨h4, h5⟩ := zfm.1 hk
  obtain ⟨X', h6⟩ := hst.setLo h1 h2 h3
  obtain ⟨st', h7, h8⟩ := h6.put h5
  exact Res.norm (zoq h4) (hκ _ _ _ _ _ _ (fun _ => rfl) h7 ⟨_, rfl⟩ h8)
theorem ztt (h : zct C.base X0 kf ν X st tm HA t) : zni (.now st.tm) (.now tm) /\ znj ν (.now st.ad) (.now tm) := ⟨h.tms, h.ads⟩
theorem zzez (hW : zje C A W) {la : List Nat} {all : Array Oper} {κ : KT} {m : Tm -> zaf -> zbg} (hκ : SK C W J X0 kf Q κ m) : ∀ (l : List Oper), SK C W J X0 kf Q (tops C la all n κ l) (zuu C (fnV C A) all n m l) := by
 intro l; induction l with
 | nil => exact hκ
 | cons o l ih =>
  intro st tm HA t X ν hst h; have h : wpT C.base W J (obT (za1 o.guard all st.tm) fun w => Bool.rec (motive := fun _ => T) (z0f n o.dst zba false st (tops C la all n κ l))
   (tH C la o.dst o.op (.now st.tm) (.now st.ad) st.lo (kop C all n o (.now st.tm) st (tops C la all n κ l)) (klo C n o st (tops C la all n κ l))) w) t Q := h
  rw [za4] at h; obtain ⟨w, h1, h2⟩ := h
  rw [zgj]; refine Res.ob (zoz hst h1) ?_
  cases w with
  | false =>
   rw [if_neg (by simp)]
   obtain ⟨st', h3, h4⟩ := hst.put h2
   exact ih _ _ _ _ _ _ h3 h4
  | true =>
   rw [if_pos rfl]; exact z5y hW (ztt hst).1 (ztt hst).2 hst (fun st' tm' HA' t' X' ν' _ hs _ hw => ih _ _ _ _ _ _ hs hw) h2
end
end Go.Am
namespace Go.Am
open Go Go.RowKit
structure zsz (ν : Nat -> Nat) (old : TSt) (oldA : Tm) : Prop where
 tms : ∀ i v, old.tm.get i = some v -> oldA.get i = some v
 ads : ∀ i p, zfr i old.ad = some p -> oldA.get i = some (.ptr (ν p.1) p.2)
theorem zct.old {base : Nat} {X0 X : Xt} {kf : Nat} {ν : Nat -> Nat} {st : TSt} {tm : Tm} {HA : zaf} {t : Tr zam} (h : zct base X0 kf ν X st tm HA t) : zsz ν st tm := ⟨h.tms, h.ads⟩
theorem Tm.get_cut {tm : Tm} {i : Nat} : tm.cut.get i = if i < tm.k then tm.get i else none := by
 unfold Tm.cut Tm.get; simp only [zmg]; by_cases h : Nat.blt i tm.k = true
 ·rw [if_pos h, if_pos h, if_pos (zcz.1 h)]
 ·rw [if_neg h, if_neg (fun e => h (zcz.2 e))]; rfl
theorem z9q {k i : Nat} : ∀ {l : List (Nat × Nat × Nat)}, zfr i (Env.adCut k l) = if i < k then zfr i l else none := by
 intro l; induction l with
 | nil => show none = _; split <;> rfl
 | cons a l ih =>
  unfold Env.adCut at ih ⊢
  rw [List.filter_cons]; split
  ·rename_i ha
   have ha := zcz.1 ha
   rw [zel, ih, zel]; split
   ·rename_i e; rw [if_pos (by omega)]
   ·rfl
  ·rename_i ha
   rw [ih, zel]; split
   ·rename_i hi
    rw [if_neg]; intro e; exact ha (zcz.2 (by omega))
   ·rfl
section
variable {W J : zgy} {t : Tr zam} {X X0 : Xt} {HA : zaf} {C : Ctx} {A : Tr zbv} {ν : Nat -> Nat} {Q : zay} {kf n : Nat} {st old : TSt} {tm oldA : Tm} {all : Array Oper} {olds : List (Nat × List Nat)}
theorem zct.cut (h : zct C.base X0 kf ν X st tm HA t) : zct C.base X0 kf ν X st.cut tm.cut HA t := by
 refine ⟨h.ov, h.le, h.k, h.kA, ?_, ?_, h.lo, h.inj⟩
 ·intro i v hi
  have hi : st.tm.cut.get i = some v := hi
  rw [Tm.get_cut] at hi ⊢
  split at hi
  ·rename_i e; rw [if_pos (by rw [h.kA, <- h.k]; exact e)]; exact h.tms i v hi
  ·cases hi
 ·intro i p hi
  have hi : zfr i (Env.adCut st.tm.k st.ad) = some p := hi
  rw [z9q] at hi; rw [Tm.get_cut]; split at hi
  ·rename_i e; rw [if_pos (by rw [h.kA, <- h.k]; exact e)]; exact h.ads i p hi
  ·cases hi
theorem zku (h : zct C.base X0 kf ν X st tm HA t) (ho : zsz ν old oldA) {os : List Nat} {op : Op} : zni (zyx st old os op) (.mixed tm oldA os (zbh op)) /\ znj ν (zzbk st old os op) (.mixed tm oldA os (zbh op)) := by
 constructor
 ·intro i v hi
  have hi : (bif zb1 i (zbh op) then Tm.get (bif zb1 i os then old.tm else st.tm) i else none) = some v := hi
  show (bif zb1 i (zbh op) then Tm.get (bif zb1 i os then oldA else tm) i else none) = some v
  cases hm : zb1 i (zbh op) with
  | false => rw [hm] at hi; cases hi
  | true =>
   rw [hm] at hi; simp only [cond_true] at hi ⊢
   cases hq : zb1 i os with
   | true => rw [hq] at hi; exact ho.tms i v hi
   | false => rw [hq] at hi; exact h.tms i v hi
 ·intro i p hi
  have hi : (bif zb1 i (zbh op) then zfr i (bif zb1 i os then old.ad else st.ad) else none) = some p := hi
  show (bif zb1 i (zbh op) then Tm.get (bif zb1 i os then oldA else tm) i else none) = _
  cases hm : zb1 i (zbh op) with
  | false => rw [hm] at hi; cases hi
  | true =>
   rw [hm] at hi; simp only [cond_true] at hi ⊢
   cases hq : zb1 i os with
   | true => rw [hq] at hi; exact ho.ads i p hi
   | false => rw [hq] at hi; exact h.ads i p hi
theorem zmk (ho : zsz ν old oldA) {κ : KT} {kd : Tm -> zbg} (hκ : ∀ st' tm', zct C.base X0 kf ν X st' tm' HA t -> wpT C.base W J (κ st') t Q -> Res C.base X0 Q (kd tm')) :
  ∀ (l : List Nat) (st : TSt) (tm : Tm), zct C.base X0 kf ν X st tm HA t -> wpT C.base W J (ze5 C all n old olds κ l st) t Q -> Res C.base X0 Q (zbs C HA all n oldA olds kd l tm) := by
 intro l; induction l with
 | nil => exact hκ
 | cons i l ih =>
  intro st tm hst h; have h : wpT C.base W J (obT (zds all.toList i) fun o => obT (za1 o.guard all st.tm) fun w => Bool.rec (motive := fun _ => T) (z0f n o.dst zba false st (ze5 C all n old olds κ l))
   (tL C o.op (zyx st old (zb5 i olds) o.op) (zzbk st old (zb5 i olds) o.op) st.lo (kop C all n o (zyx st old (zb5 i olds) o.op) st (ze5 C all n old olds κ l))) w) t Q := h
  rw [za4] at h; obtain ⟨o, h0, h⟩ := h
  rw [za4] at h; obtain ⟨w, h1, h2⟩ := h
  rw [zg8]; refine Res.ob h0 (Res.ob (zoz hst h1) ?_)
  cases w with
  | false =>
   rw [if_neg (by simp)]
   obtain ⟨st', h3, h4⟩ := hst.put h2
   exact ih _ _ h3 h4
  | true =>
   rw [if_pos rfl]; refine Exists.elim (zze1 (R := fun v => Res C.base X0 Q (zhe C o.type v fun v => zbs C HA all n oldA olds kd l (putA n tm o.dst v))) (zku hst ho).1 (zku hst ho).2 hst.ov hst.lo h2 ?_ ?_ ?_) (fun v h => Res.ob h.1 h.2)
   ·intro v hk
    have hk : wpT C.base W J (z5c C o.type v fun v => zrp (zt1 all.toList o.dst all.toList) (zzbo o.op (zyx st old (zb5 i olds) o.op) st.lit) v fun v lt => z0f n o.dst v lt st (ze5 C all n old olds κ l)) t Q := hk
    obtain ⟨g1, g2⟩ := z0g hk
    obtain ⟨lt', g3⟩ := zk6 g2
    obtain ⟨st', g4, g5⟩ := hst.put g3
    exact Res.norm g1 (ih _ _ g4 g5)
   ·intro v hk
    obtain ⟨g1, g2⟩ := zfm.1 hk
    obtain ⟨lt', g3⟩ := zk6 g2
    obtain ⟨st', g4, g5⟩ := hst.put g3
    exact Res.norm (zoq g1) (ih _ _ g4 g5)
   ·intro d off hk
    obtain ⟨g1, g2⟩ := zfm.1 hk
    obtain ⟨st', g4, g5⟩ := hst.putA g2
    exact Res.norm (zt9 g1) (ih _ _ g4 g5)
theorem z5b (ho : zsz ν old oldA) (hst : zct C.base X0 kf ν X st tm HA t) {k : T} {kd : zbg} (hk : wpT C.base W J k t Q -> Res C.base X0 Q kd) :
  ∀ (l : List Nat), wpT C.base W J (zj4 C all old olds st k l) t Q -> Res C.base X0 Q (zek C HA all oldA olds tm kd l) := by
 intro l; induction l with
 | nil => exact hk
 | cons i l ih =>
  intro h; have h : wpT C.base W J (obT (zds all.toList i) fun o => obT o.dst fun d => obT (za1 o.guard all st.tm) fun w => Bool.rec (motive := fun _ => T) (zj4 C all old olds st k l)
   (obT (st.tm.get d) fun u => gdT (fitB C o.type u) (tL C o.op (zyx st old (zb5 i olds) o.op) (zzbk st old (zb5 i olds) o.op) st.lo ⟨fun v => .ite (same 10 v u) (zj4 C all old olds st k l) .fail, fun v => .ite (same 10 v u) (zj4 C all old olds st k l) .fail, fun _ _ => .fail⟩)) w) t Q := h
  rw [za4] at h; obtain ⟨o, h0, h⟩ := h
  rw [za4] at h; obtain ⟨d, h1, h⟩ := h
  rw [za4] at h; obtain ⟨w, h2, h⟩ := h
  rw [zk0]; refine Res.ob h0 (Res.ob h1 (Res.ob (zoz hst h2) ?_))
  cases w with
  | false => rw [if_neg (by simp)]; exact ih h
  | true =>
   rw [if_pos rfl]; simp only [za4, zfm] at h; obtain ⟨u, h3, h4, h5⟩ := h
   have fin : ∀ v, wpT C.base W J (.ite (same 10 v u) (zj4 C all old olds st k l) .fail) t Q -> Res C.base X0 Q (zhe C o.type v fun v => ob (tm.get d) fun u => zah (same 10 v u) (zek C HA all oldA olds tm kd l)) := by
    intro v hv; have hv : if same 10 v u = true then wpT C.base W J (zj4 C all old olds st k l) t Q else False := hv
    split at hv
    ·rename_i hs
     refine Res.norm ?_ (Res.ob (hst.tms _ _ h3) ?_)
     ·rw [zyd _ _ _ hs]; exact zoq h4
     ·rw [hs]; exact ih hv
    ·exact hv.elim
   obtain ⟨v, h6, h7⟩ := zze1 (R := fun v => Res C.base X0 Q (zhe C o.type v fun v => ob (tm.get d) fun u => zah (same 10 v u) (zek C HA all oldA olds tm kd l))) (zku hst ho).1 (zku hst ho).2 hst.ov hst.lo h5 fin fin (fun _ _ h => h.elim)
   exact Res.ob h6 h7
theorem z99 (hst : zct C.base X0 kf ν X st tm HA t) {h : Nat} {o : Oper} {w : Bool} (hw : zgd C all h o st.tm = some w) : zgd C all h o tm = some w := by
 unfold zgd at hw ⊢
 rw [zac] at hw ⊢
 obtain ⟨u, h1, h2⟩ := hw
 exact ⟨u, zoz hst h1, h2⟩
theorem z3v {e e' : Env} (he : zni e e') {op : Op} {ef : Eff} (h : zqk op e = some ef) : zqk op e' = some ef := by
 cases op <;> first | (cases h; done) | skip
 case store t a x =>
  simp only [zqk, zac] at h ⊢
  obtain ⟨a, h1, v, h2, h⟩ := h
  exact ⟨a, zap he h1, v, zap he h2, h⟩
 case mapUpdate t m k x =>
  simp only [zqk, zac] at h ⊢
  obtain ⟨a, h1, v, h2, u, h3, h⟩ := h
  exact ⟨a, zap he h1, v, zap he h2, u, zap he h3, h⟩
 case insert t m k x =>
  simp only [zqk, zac] at h ⊢
  obtain ⟨a, h1, v, h2, u, h3, h⟩ := h
  exact ⟨a, zap he h1, v, zap he h2, u, zap he h3, h⟩
theorem zze2 {op : Op} {e : Env} {ae : zux} {ef : Eff} (h : tEff op e ae = some ef) : zqk op e = some ef := by
 cases op <;> first | exact h | skip
 case store t a x =>
  unfold tEff at h; simp only [] at h; split at h
  ·cases h
  ·exact h
theorem zzak (hst : zct C.base X0 kf ν X st tm HA t) (ho : zsz ν old oldA) {l : List Nat} {es : List Eff} (h : zzal all old olds st l = some es) : z3u all oldA olds tm l = some es := by
 refine zjo l (fun i ef h => ?_) h
 unfold zrg; simp only [zac, zae] at h ⊢
 obtain ⟨o, h1, w, h2, h3, h4⟩ := h
 exact ⟨o, h1, w, zoz hst h2, h3, z3v (zku hst ho).1 (zze2 h4)⟩
theorem z2e (hW : zje C A W) (ho : zsz ν old oldA) {κ : KT} {m : Tm -> zaf -> zbg} (hκ : SK C W J X0 kf Q κ m) :
  ∀ (l : List zch) (st : TSt) (tm : Tm) (HA : zaf) (t : Tr zam) (X : Xt), zct C.base X0 kf ν X st tm HA t -> wpT C.base W J (ziy C all n old olds κ l st) t Q -> Res C.base X0 Q (zbu C (fnV C A) all n oldA olds m l tm HA) := by
 intro l; induction l with
 | nil => intro st tm HA t X hst h; exact hκ _ _ _ _ _ _ hst h
 | cons s l ih =>
  intro st tm HA t X hst h
  cases hg : zfu all s with
  | true =>
   have h : wpT C.base W J (Bool.rec (motive := fun _ => T) _ (gdT (zka C all) (obT (zzal all old olds st s.again) fun es => .heavy (zro C es) fun _ => ze5 C all n old olds (ziy C all n old olds κ l) s.lights st)) (zfu all s)) t Q := h
   rw [hg] at h; have h : wpT C.base W J (gdT (zka C all) (obT (zzal all old olds st s.again) fun es => .heavy (zro C es) fun _ => ze5 C all n old olds (ziy C all n old olds κ l) s.lights st)) t Q := h
   rw [zfm] at h; obtain ⟨h0, h⟩ := h
   rw [za4] at h; obtain ⟨es, h1, h⟩ := h
   have h := h HA.next hst.ov.nextT hst.ov.base
   rw [zer] at h; obtain ⟨⟨v, H'⟩, h2, h3⟩ := h
   obtain ⟨HA', h4, h5⟩ := z4t _ _ _ _ _ hst.ov h2
   have h6 : zlv C es HA = some HA' := by
    unfold zro at h4; rw [zac] at h4; obtain ⟨y, g1, g2⟩ := h4
    cases g2
    exact g1
   rw [zeo hg]; unfold zwn; rw [h0]; show Res C.base X0 Q (ob (z3u all oldA olds tm s.again) fun es => ob (zlv C es HA) fun H' => zbs C H' all n oldA olds (fun tm => zbu C (fnV C A) all n oldA olds m l tm H') s.lights tm)
   refine Res.ob (zzak hst ho h1) (Res.ob h6 ?_)
   exact zmk ho (fun st' tm' hs hw => ih _ _ _ _ _ hs hw) _ _ _ (hst.later h5 (XLe.refl _)) h3
  | false =>
  have h : wpT C.base W J (Bool.rec (motive := fun _ => T) (obT (zds all.toList (hvI all s.heavy)) fun o => obT (zgd C all s.heavy o st.tm) fun w =>
   (fun cont : KT => Bool.rec (motive := fun _ => T) (z0f n o.dst zba false st cont)
    (tH C [] o.dst o.op (zyx st old (zb5 (hvI all s.heavy) olds) o.op) (zzbk st old (zb5 (hvI all s.heavy) olds) o.op) st.lo (kop C all n o (zyx st old (zb5 (hvI all s.heavy) olds) o.op) st cont) (klo C n o st cont)) w)
   (fun st' => zj4 C all old olds st' (ze5 C all n old olds (ziy C all n old olds κ l) s.lights st') s.again)) _ (zfu all s)) t Q := h
  rw [hg] at h; have h : wpT C.base W J (obT (zds all.toList (hvI all s.heavy)) fun o => obT (zgd C all s.heavy o st.tm) fun w =>
   (fun cont : KT => Bool.rec (motive := fun _ => T) (z0f n o.dst zba false st cont)
    (tH C [] o.dst o.op (zyx st old (zb5 (hvI all s.heavy) olds) o.op) (zzbk st old (zb5 (hvI all s.heavy) olds) o.op) st.lo (kop C all n o (zyx st old (zb5 (hvI all s.heavy) olds) o.op) st cont) (klo C n o st cont)) w)
   (fun st' => zj4 C all old olds st' (ze5 C all n old olds (ziy C all n old olds κ l) s.lights st') s.again)) t Q := h
  rw [za4] at h; obtain ⟨o, h0, h⟩ := h
  rw [za4] at h; obtain ⟨w, h1, h2⟩ := h
  rw [zei hg]; refine Res.ob h0 (Res.ob (z99 hst h1) ?_)
  have fin : ∀ st' tm' HA' t' X' ν', ν' = ν -> zct C.base X0 kf ν' X' st' tm' HA' t' -> wpT C.base W J (zj4 C all old olds st' (ze5 C all n old olds (ziy C all n old olds κ l) s.lights st') s.again) t' Q →
    Res C.base X0 Q (zek C HA' all oldA olds tm' (zbs C HA' all n oldA olds (fun tm => zbu C (fnV C A) all n oldA olds m l tm HA') s.lights tm') s.again) := by
   intro st' tm' HA' t' X' ν' e hs hw; subst e; exact z5b ho hs (fun hl => zmk ho (fun st2 tm2 hs2 hw2 => ih _ _ _ _ _ hs2 hw2) _ _ _ hs hl) _ hw
  cases w with
  | false =>
   simp only [yar, if_false]; obtain ⟨st', h3, h4⟩ := hst.put h2
   exact fin _ _ _ _ _ _ rfl h3 h4
  | true =>
   simp only [if_true]; exact z5y (m := fun tm' HA' => zek C HA' all oldA olds tm' (zbs C HA' all n oldA olds (fun tm => zbu C (fnV C A) all n oldA olds m l tm HA') s.lights tm') s.again)
    hW (zku hst ho).1 (zku hst ho).2 hst (fun st' tm' HA' t' X' ν' hn hs _ hw => fin _ _ _ _ _ _ (hn rfl) hs hw) h2
theorem z2g (hW : zje C A W) {la : List Nat} {fn id : Nat} {d : Bool} {κ : KT} {m : Tm -> zaf -> zbg} (hκ : SK C W J X0 kf Q κ m) : SK C W J X0 kf Q (z43 C la fn n κ id all d) (zmo C (fnV C A) fn n m id all d) := by
 intro st tm HA t X ν hst h
 cases d with
 | false => exact zzez hW hκ _ _ _ _ _ _ _ hst.cut h
 | true =>
  have h : wpT C.base W J (obT (ob (C.plans.get fn) fun t => t.get id) fun p => gdT (ziq all p) (ze5 C all n st.cut p.olds (ziy C all n st.cut p.olds κ p.stages) p.first st.cut)) t Q := h
  simp only [za4, zfm] at h; obtain ⟨p, h1, h2, h3⟩ := h
  show Res C.base X0 Q (ob (ob (C.plans.get fn) fun t => t.get id) fun p => zah (ziq all p) (zbs C HA all n tm.cut p.olds (fun tm' => zbu C (fnV C A) all n tm.cut p.olds m p.stages tm' HA) p.first tm.cut))
  refine Res.ob h1 ?_
  rw [h2]; exact zmk hst.cut.old (fun st' tm' hs hw => z2e hW hst.cut.old hκ _ _ _ _ _ _ hs hw) _ _ _ hst.cut h3
end
structure PtD where
 p : PI
 m : Tm -> zaf -> zbg
def zdn (C : Ctx) (φ : Ora) (fn n : Nat) : zbv -> Kt -> List PtD
 | .skip, _ => []
 | .region _ _ _, _ => []
 | .seq a b, κ => zdn C φ fn n a ⟨den C φ fn n b κ, κ.exit, κ.ret⟩ ++ zdn C φ fn n b κ
 | .cond _ x y, κ => zdn C φ fn n x κ ++ zdn C φ fn n y κ
 | .block id c, κ => zdn C φ fn n c ⟨κ.norm, fun i tm H => Bool.rec (motive := fun _ => zbg) (κ.exit i tm H) (κ.norm tm H) (Nat.beq id i), κ.ret⟩
 | .loop p c, κ => ⟨p, den C φ fn n (.loop p c) κ⟩ :: zdn C φ fn n c ⟨den C φ fn n (.loop p c) κ, κ.exit, κ.ret⟩
 | .exit _, _ => []
 | .ret, _ => []
 | .cut p c, κ => ⟨p, den C φ fn n (.cut p c) κ⟩ :: zdn C φ fn n c κ
 | .range i pl fo ps id ops c, _ => ⟨⟨i, zem pl ps.toList, []⟩, zzct C φ fn n ⟨i, pl, fo, ps, id, ops, c⟩⟩ :: zdn C φ fn n c rdK
def zzc8 (base kf : Nat) (d : PtD) (vals : List zab) (t : Tr zam) (Q : zay) : Prop := ∀ X0 X HA tm ν, zct base X0 kf ν X (z4e kf d.p vals) tm HA t -> Res base X0 Q (d.m tm HA)
def JOk (base kf : Nat) (J : zgy) (l : List PtD) : Prop := ∀ d ∈ l, ∀ vals t Q, J d.p.id vals t Q -> zzc8 base kf d vals t Q
structure SKt (C : Ctx) (W J : zgy) (X0 : Xt) (kf : Nat) (Q : zay) (κ : KtT) (m : Kt) : Prop where
 norm : SK C W J X0 kf Q κ.norm m.norm
 exit : ∀ i, SK C W J X0 kf Q (κ.exit i) (m.exit i)
 ret : SK C W J X0 kf Q κ.ret m.ret
theorem ztf {d : Nat} {l : List zab} {st : TSt} : ∀ {ll : List (Nat × Nat)} {b rest : List zab}, zrk st ll = some b -> (z93 ll (b ++ rest)).get d = some l -> st.lo.get d = some l := by
 intro ll; induction ll with
 | nil => intro b rest _ h; rw [show z93 [] (b ++ rest) = .leaf from rfl, Tr.get_leaf] at h; cases h
 | cons p ll ih =>
  intro b rest hb h; have hb : (ob (zfr p.1 st.ad) fun a => zah (Nat.beq a.1 p.1 && Nat.beq a.2 0) (ob (st.lo.get p.1) fun l => zah (Nat.beq (zbp l) p.2) (ob (zrk st ll) fun r => some (zem l r)))) = some b := hb
  simp only [zac, zae] at hb; obtain ⟨a, _, _, l0, h2, h3, r, h4, h5⟩ := hb
  cases h5; have h : ((z93 ll (zln (zem l0 r ++ rest) p.2)).set p.1 (zrd (zem l0 r ++ rest) p.2)).get d = some l := h
  rw [zck, zav] at h3; rw [zbx, zf5, zfi, <- h3, yba, List.drop_left, List.take_left, Tr.get_set] at h; split at h
  ·rename_i e; cases h; rw [e]; exact h2
  ·exact ih h4 h
theorem zzat {i : Nat} {q : Nat × Nat} {st : TSt} : ∀ {ll : List (Nat × Nat)} {b : List zab}, zrk st ll = some b -> zfr i (stAd ll) = some q -> zfr i st.ad = some q := by
 intro ll; induction ll with
 | nil => intro b _ h; cases h
 | cons p ll ih =>
  intro b hb h; have hb : (ob (zfr p.1 st.ad) fun a => zah (Nat.beq a.1 p.1 && Nat.beq a.2 0) (ob (st.lo.get p.1) fun l => zah (Nat.beq (zbp l) p.2) (ob (zrk st ll) fun r => some (zem l r)))) = some b := hb
  simp only [zac, zae, yac, zck] at hb; obtain ⟨a, h1, ⟨h2, h3⟩, l0, _, _, r, h4, _⟩ := hb
  have h : zfr i ((p.1, p.1, 0) :: stAd ll) = some q := h
  rw [zel] at h; split at h
  ·rename_i e; cases h; rw [e]; show zfr p.1 st.ad = some (p.1, 0); rw [h1, <- h2, <- h3]
  ·exact ih h4 h
theorem zzar {i : Nat} {v : zab} {st : TSt} : ∀ {pl : List Nat} {a rest : List zab}, zd7 (fun i => st.tm.get i) pl = some a -> (zxi pl (a ++ rest)).get i = some v -> st.tm.get i = some v := by
 intro pl; induction pl with
 | nil => intro a rest _ h; rw [show zxi [] (a ++ rest) = .leaf from rfl, Tr.get_leaf] at h; cases h
 | cons j pl ih =>
  intro a rest ha h; rw [zcb, zac] at ha; obtain ⟨u, h1, ha⟩ := ha
  rw [zac] at ha; obtain ⟨r, h2, ha⟩ := ha
  cases ha; have h : ((zxi pl (r ++ rest)).set j u).get i = some v := h
  rw [Tr.get_set] at h; split at h
  ·rename_i e; cases h; rw [e]; exact h1
  ·exact ih h2 h
theorem Tm.get_kv {k i : Nat} {v : Tr zab} {u : zab} (h : Tm.get ⟨k, v, []⟩ i = some u) : i < k /\ v.get i = some u := by
 unfold Tm.get at h; rw [zmg] at h; split at h
 ·rename_i e; exact ⟨zcz.1 e, h⟩
 ·cases h
theorem z16 {p : PI} {st : TSt} {vals : List zab} (h : zrj p st = some vals) : ∃ a b, vals = a ++ b /\ zd7 (fun i => st.tm.get i) p.pl = some a /\ zrk st p.ll = some b /\ a.length = p.pl.length := by
 unfold zrj at h; simp only [zac] at h; obtain ⟨a, h1, b, h2, h3⟩ := h
 cases h3; refine ⟨a, b, zbx _ _, h1, h2, ?_⟩
 have : ∀ (l : List Nat) (r : List zab), zd7 (fun i => st.tm.get i) l = some r -> r.length = l.length := by
  intro l; induction l with
  | nil => intro r h; cases h; rfl
  | cons x l ih =>
   intro r h; rw [zcb, zac] at h; obtain ⟨u, _, h⟩ := h
   rw [zac] at h; obtain ⟨s, h5, h⟩ := h
   cases h; simp [ih _ h5]
 exact this _ _ h1
section
variable {W J : zgy} {t : Tr zam} {X X0 : Xt} {HA : zaf} {C : Ctx} {A : Tr zbv} {ν : Nat -> Nat} {Q : zay} {kf n : Nat} {st : TSt} {tm : Tm}
theorem zct.at (h : zct C.base X0 kf ν X st tm HA t) {p : PI} {vals : List zab} (hv : zrj p st = some vals) : zct C.base X0 kf ν X (z4e kf p vals) tm HA t := by
 obtain ⟨a, b, rfl, h1, h2, h3⟩ := z16 hv
 have hd : zln (a ++ b) (zbp p.pl) = b := by rw [zf5, zav, <- h3, List.drop_left]
 refine ⟨h.ov, h.le, rfl, h.kA, ?_, ?_, ?_, ?_⟩
 ·intro i v hi
  exact h.tms i v (zzar h1 (Tm.get_kv hi).2)
 ·intro i q hi
  exact h.ads i q (zzat h2 hi)
 ·intro d l hl
  have hl : (z93 p.ll (zln (a ++ b) (zbp p.pl))).get d = some l := hl
  rw [hd] at hl; have hb : (z93 p.ll (b ++ [])).get d = some l := by rw [ybe]; exact hl
  exact h.lo d l (ztf h2 hb)
 ·intro d d' l l' hl hl' he
  have hl : (z93 p.ll (zln (a ++ b) (zbp p.pl))).get d = some l := hl
  have hl' : (z93 p.ll (zln (a ++ b) (zbp p.pl))).get d' = some l' := hl'
  rw [hd] at hl hl'
  have hb : (z93 p.ll (b ++ [])).get d = some l := by rw [ybe]; exact hl
  have hb' : (z93 p.ll (b ++ [])).get d' = some l' := by rw [ybe]; exact hl'
  exact h.inj d d' l l' (ztf h2 hb) (ztf h2 hb') he
theorem z7v {tm : Tm} {i : Nat} {v : zab} (hv : tm.get i = some v) : ∀ {live : List Nat}, i ∈ live -> (zwh tm live).get i = some v := by
 intro live; induction live with
 | nil => intro h; cases h
 | cons j live ih =>
  intro h; show (match tm.get j with | some v => (zwh tm live).set j v | none => zwh tm live : Tr zab).get i = some v
  by_cases e : i = j
  ·subst e; rw [hv]; simp only []; rw [Tr.get_set, if_pos rfl]
  ·have := ih ((yat.1 h).resolve_left e)
   cases tm.get j with
   | none => exact this
   | some u => simp only []; rw [Tr.get_set, if_neg e]; exact this
theorem zzaq {i : Nat} {v : zab} : ∀ {pl : List Nat} {vals : List zab}, (zxi pl vals).get i = some v -> i ∈ pl := by
 intro pl; induction pl with
 | nil => intro vals h; rw [show zxi [] vals = .leaf from rfl, Tr.get_leaf] at h; cases h
 | cons j pl ih =>
  intro vals h
  cases vals with
  | nil => rw [show zxi (j :: pl) [] = .leaf from rfl, Tr.get_leaf] at h; cases h
  | cons u vals =>
   have h : ((zxi pl vals).set j u).get i = some v := h
   rw [Tr.get_set] at h; split at h
   ·rename_i e; rw [e]; exact yaz
   ·exact yas _ (ih h)
theorem zzas {i : Nat} {q : Nat × Nat} : ∀ {ll : List (Nat × Nat)}, zfr i (stAd ll) = some q -> i ∈ (List.rec (motive := fun _ => List Nat) [] (fun a _ r => a.1 :: r) ll : List Nat) := by
 intro ll; induction ll with
 | nil => intro h; cases h
 | cons p ll ih =>
  intro h; have h : zfr i ((p.1, p.1, 0) :: stAd ll) = some q := h
  rw [zel] at h; split at h
  ·rename_i e; rw [e]; exact yaz
  ·exact yas _ (ih h)
theorem zct.keep {p : PI} {vals : List zab} (hb : ∀ i, i ∈ p.kept -> i < kf) (h : zct C.base X0 kf ν X (z4e kf p vals) tm HA t) : zct C.base X0 kf ν X (z4e kf p vals) (Am.keep p.kept tm) HA t := by
 have key : ∀ i v, i ∈ p.kept -> tm.get i = some v -> (Am.keep p.kept tm).get i = some v := by
  intro i v hi hv; unfold Am.keep Tm.get; rw [zmg, if_pos (zcz.2 (by rw [h.kA]; exact hb i hi))]
  exact z7v hv hi
 refine ⟨h.ov, h.le, rfl, h.kA, ?_, ?_, h.lo, h.inj⟩
 ·intro i v hi
  refine key i v ?_ (h.tms i v hi)
  unfold PI.kept; rw [zbx]; exact ycd _ (zzaq (Tm.get_kv hi).2)
 ·intro i q hi
  refine key i _ ?_ (h.ads i q hi)
  unfold PI.kept; rw [zbx]; exact ybg _ (zzas hi)
theorem zy2 {l : List PtD} (hJ : JOk C.base kf J l) {p : PI} {m : Tm -> zaf -> zbg} (hm : (⟨p, m⟩ : PtD) ∈ l) : SK C W J X0 kf Q (z3c p) m := by
 intro st tm HA t X ν hst h; unfold z3c at h; rw [za4] at h; obtain ⟨vals, h1, h2⟩ := h
 exact hJ _ hm vals t Q h2 _ _ _ _ _ (hst.at h1)
theorem zzdr : SKt C W J X0 kf Q rdT rdK := ⟨fun _ tm HA t X _ hst h => ⟨_, t, HA, X, rfl, hst.ov, hst.le, h⟩, fun _ _ _ _ _ _ _ _ h => h.elim, fun _ tm HA t X _ hst h => ⟨_, t, HA, X, rfl, hst.ov, hst.le, h⟩⟩
def zzc3 (C : Ctx) (A : Tr zbv) (W : zgy) : Prop := ∀ l args t Q, (∀ X HA, Ov C.base t X HA -> Res C.base X Q (zzo C A (yo + l) args HA)) -> W (yo + l) args t Q
def onX (X : Xt) (b : Nat) (y : zam) : Xt := fun c => if c = b then some y else X c
theorem zv2 {X : Xt} {b : Nat} {y : zam} (h : X b = none) : XLe X (onX X b y) := by
 intro c z hc; unfold onX; rw [if_neg (fun e => by rw [e, h] at hc; cases hc)]
 exact hc
theorem Ov.under {base : Nat} (h : Ov base t X HA) {b : Nat} {y : zam} (hb : t.get b = some y) (z : zam) : Ov base (t.del b) (onX X b z) (Am.setBlk HA b z) := by
 refine ⟨h.base, fun c hc => ?_, fun c u hc => ?_, fun c u hc => ?_⟩
 ·show (HA.t.set b z).get c = _
  unfold onX at hc; split at hc
  ·cases hc
  ·rename_i e; rw [Tr.get_set, if_neg e, Tr.get_del, if_neg e]; exact h.same c hc
 ·show (HA.t.set b z).get c = _ /\ _
  unfold onX at hc; split at hc
  ·rename_i e; cases hc; subst e; exact ⟨by rw [Tr.get_set, if_pos rfl], by rw [Tr.get_del, if_pos rfl], h.lt _ _ hb⟩
  ·rename_i e
   obtain ⟨g1, g2, g3⟩ := h.ext c u hc
   exact ⟨by rw [Tr.get_set, if_neg e]; exact g1, by rw [Tr.get_del, if_neg e]; exact g2, g3⟩
 ·rw [Tr.get_del] at hc
  split at hc
  ·cases hc
  ·exact h.lt _ _ hc
theorem Ov.back {base : Nat} (h : Ov base t X HA) {b : Nat} {y : zam} (hb : X b = some y) (z : zam) : Ov base (t.set b z) (fun c => if c = b then none else X c) (Am.setBlk HA b z) := by
 obtain ⟨g1, g2, g3⟩ := h.ext b y hb
 refine ⟨h.base, fun c hc => ?_, fun c u hc => ?_, fun c u hc => ?_⟩
 ·show (HA.t.set b z).get c = _
  rw [Tr.get_set, Tr.get_set]; split
  ·rfl
  ·rename_i e; rw [if_neg e] at hc; exact h.same c hc
 ·show (HA.t.set b z).get c = _ /\ _
  split at hc
  ·cases hc
  ·rename_i e
   obtain ⟨g1, g2, g3⟩ := h.ext c u hc
   exact ⟨by rw [Tr.get_set, if_neg e]; exact g1, by rw [Tr.get_set, if_neg e]; exact g2, g3⟩
 ·rw [Tr.get_set] at hc
  split at hc
  ·rename_i e; rw [e]; exact g3
  ·exact h.lt _ _ hc
theorem zpu {H : zaf} {l : Nat} {r : zk2} (hl : 256 <= l) (h : H.t.get l = some (.loop r)) : zdr H l = some r := by
 unfold zdr; rw [h, zad, Nat.ble_eq_true_of_le hl]; rfl
theorem zza1 {base kf n : Nat} {st : TSt} {tm : Tm} {i : Nat} {pl ps : List Nat} {vals args : List zab} {X : Xt} {HA : zaf} {t : Tr zam} (ho : Ov base t X HA) (hk : st.tm.k = kf) (hkA : tm.k = kf)
  (ht : ∀ i v, st.tm.get i = some v -> tm.get i = some v) (hv : zzdp pl st = some vals) (hok : zgv (fun p => Nat.blt p st.tm.k && Nat.blt p n && !zb1 p pl) ps = true) (h1 : ps.length <= 1) (hl : args.length = ps.length) :
  ∃ tm', zdx n ps args tm = some tm' /\ zct base X kf (fun i => i) X (z4e kf ⟨i, zem pl ps, []⟩ (vals ++ args)) tm' HA t := by
 have old : ∀ (pl : List Nat) (vals rest : List zab) j v, zd7 (fun i => st.tm.get i) pl = some vals -> (zxi (pl ++ ps) (vals ++ rest)).get j = some v -> (j ∈ pl /\ tm.get j = some v) \/ (zxi ps rest).get j = some v := by
  intro pl; induction pl with
  | nil => intro vals rest j v h hj; cases h; exact Or.inr hj
  | cons a pl ih =>
   intro vals rest j v h hj; rw [zcb, zac] at h; obtain ⟨u, g1, h⟩ := h
   rw [zac] at h; obtain ⟨us, g2, h⟩ := h
   cases h; have hj : ((zxi (pl ++ ps) (us ++ rest)).set a u).get j = some v := hj
   rw [Tr.get_set] at hj; split at hj
   ·rename_i e; cases hj; rw [e]; exact Or.inl ⟨yaz, ht _ _ g1⟩
   ·rcases ih us rest j v g2 hj with ⟨a1, a2⟩ | a1
    ·exact Or.inl ⟨yas _ a1, a2⟩
    ·exact Or.inr a1
 cases ps with
 | nil =>
  cases args with
  | cons _ _ => cases hl
  | nil =>
   refine ⟨tm, rfl, ho, XLe.refl _, rfl, hkA, fun j v hj => ?_, fun j p h => (by cases h), fun d l h => ?_, fun d _ l _ h => ?_⟩
   ·have hj := (Tm.get_kv hj).2
    have hj : (zxi (zem pl []) (vals ++ [])).get j = some v := hj
    rw [zbx] at hj; rcases old pl vals [] j v hv hj with ⟨_, h⟩ | h
    ·exact h
    ·rw [show zxi [] [] = .leaf from rfl, Tr.get_leaf] at h; cases h
   ·rw [show (z4e kf ⟨i, zem pl [], []⟩ (vals ++ [])).lo = .leaf from rfl, Tr.get_leaf] at h; cases h
   ·rw [show (z4e kf ⟨i, zem pl [], []⟩ (vals ++ [])).lo = .leaf from rfl, Tr.get_leaf] at h; cases h
 | cons p ps =>
  cases ps with
  | cons _ _ => simp at h1
  | nil =>
   cases args with
   | nil => cases hl
   | cons a args =>
    cases args with
    | cons _ _ => simp at hl
    | nil =>
     have hp : (bif (Nat.blt p st.tm.k && Nat.blt p n && !zb1 p pl) then zgv (fun p => Nat.blt p st.tm.k && Nat.blt p n && !zb1 p pl) [] else false) = true := hok
     cases hx : (Nat.blt p st.tm.k && Nat.blt p n && !zb1 p pl) with
     | false => rw [hx] at hp; cases hp
     | true =>
      simp only [yac, ybq] at hx; obtain ⟨⟨x1, x2⟩, x3⟩ := hx
      have x1 := zcz.1 x1
      have x2 := zcz.1 x2
      refine ⟨putA n tm (some p) a, rfl, ho, XLe.refl _, rfl, by rw [z0u]; exact hkA, fun j v hj => ?_, fun j p h => (by cases h), fun d l h => ?_, fun d _ l _ h => ?_⟩
      ·have hj := (Tm.get_kv hj).2
       have hj : (zxi (zem pl [p]) (vals ++ [a])).get j = some v := hj
       rw [zbx] at hj; rw [zbk]; rcases old pl vals [a] j v hv hj with ⟨hm, h⟩ | h
       ·rw [if_neg]
        ·exact h
        ·rintro ⟨e, _⟩
         cases e
         rw [show zb1 p pl = true from (zdq _ _).2 hm] at x3
         cases x3
       ·have h : ((zxi [] []).set p a).get j = some v := h
        rw [Tr.get_set] at h; split at h
        ·rename_i e; rw [if_pos ⟨by rw [e], by rw [e]; exact x2⟩]; exact h
        ·rw [show zxi [] [] = .leaf from rfl, Tr.get_leaf] at h; cases h
      ·rw [show (z4e kf ⟨i, zem pl [p], []⟩ (vals ++ [a])).lo = .leaf from rfl, Tr.get_leaf] at h; cases h
      ·rw [show (z4e kf ⟨i, zem pl [p], []⟩ (vals ++ [a])).lo = .leaf from rfl, Tr.get_leaf] at h; cases h
theorem z6a (hW : zje C A W) (hY : zzc3 C A W) {f : Nat} {κ : KtT} {m : Kt} (hκ : ∀ X0, SKt C W J X0 kf Q κ m) {i : Nat} {pl : List Nat} {fo : Operand} {ps : Array Nat} {id : Nat} {ops : Array Oper} {c : zbv}
  (hone : ∃ c0, A.get f = some c0 /\ zlh c0 = some ⟨i, pl, fo, ps, id, ops, c⟩) (hJ : ∀ vals t Q, J i vals t Q -> zzc8 C.base kf ⟨⟨i, zem pl ps.toList, []⟩, zzct C (fnV C A) f n ⟨i, pl, fo, ps, id, ops, c⟩⟩ vals t Q) :
  SK C W J X0 kf Q (z6b C n κ i pl fo ps.toList ops.toList c) (zg5 C (fnV C A) f n m fo ps.toList (.region id ops false) (zcw c)) := by
 intro st tm HA t X ν hst h; unfold z6b at h; rw [zfm, za4] at h; obtain ⟨hok, vals, hv, h⟩ := h
 rw [za4] at h; obtain ⟨fv, hf, h256, h⟩ := h
 unfold z6c at hok; simp only [yac] at hok; obtain ⟨⟨⟨hok1, hok2⟩, hok3⟩, hok4⟩ := hok
 have hok2 : ps.toList.length <= 1 := by have := Nat.le_of_ble_eq_true hok2; rw [zav] at this; exact this
 have hok4 : zdz c = [] := by
  cases hx : zdz c with
  | nil => rfl
  | cons _ _ => rw [hx] at hok4; cases hok4
 have ho := hst.ov
 have hbase := ho.base
 generalize hr : (⟨.ready, none, f, n, tm, ps.toList, .region id ops false, zcw c, HA.next⟩ : zk2) = r at *
 have htn : t.get (HA.next + 1) = none := by
  cases hx : t.get (HA.next + 1) with
  | none => rfl
  | some y => exact absurd (ho.lt _ _ hx) (by omega)
 have hyield : ∀ args t1 Q1, args.length = zbp ps.toList -> t1.get (HA.next + 1) = some (.loop r) -> J i (vals ++ args) (t1.del (HA.next + 1)) (fun v t2 => t2.get (HA.next + 1) = none -> ∃ b, v = .bool b /\ Q1 v (t2.set (HA.next + 1) (.loop (zty b r)))) -> W (yo + (HA.next + 1)) args t1 Q1 := by
  intro args t1 Q1 hla ht1 hj; refine hY _ _ _ _ fun X1 HA1 ho1 => ?_
  rw [zw3, zzef]; show Res C.base X1 Q1 (zpi C A (fnV C A) (HA.next + 1) args HA1)
  have hx1 := ho1.notX ht1
  have hov := ho1.under ht1 (.loop (zzs r))
  obtain ⟨tm', hs1, hs2⟩ := zza1 (n := n) (i := i) hov hst.k hst.kA hst.tms hv hok1 hok2 (by rw [hla, zav])
  obtain ⟨v, t2, HA2, X2, e1, e2, e3, e4⟩ := hJ _ _ _ hj _ _ _ _ _ hs2
  have hb2 : X2 (HA.next + 1) = some (.loop (zzs r)) := e3 _ _ (by unfold onX; rw [if_pos rfl])
  obtain ⟨b, e4, e5⟩ := e4 (e2.ext _ _ hb2).2.1
  subst e4; obtain ⟨c0, hc0, hc1⟩ := hone
  refine ⟨.bool b, _, _, _, ze9.2 ⟨r, tm', c0, ⟨i, pl, fo, ps, id, ops, c⟩, (.bool b, HA2), zzs r, b, zpu (by omega) (by rw [ho1.up ht1]), ?_, ?_, hc1, ?_, ?_, zpu (by omega) (e2.ext _ _ hb2).1, rfl, rfl⟩, e2.back hb2 _, ?_, e5⟩
  ·rw [<- hr]; exact hs1
  ·rw [<- hr]; exact hc0
  ·rw [<- hr]; exact ⟨rfl, rfl, rfl, rfl, hok3, hok4⟩
  ·rw [<- hr] at e1 ⊢; exact e1
  ·intro c y hc
   have hne : c ≠ HA.next + 1 := fun e => by rw [e, hx1] at hc; cases hc
   show (if c = HA.next + 1 then none else X2 c) = some y
   rw [if_neg hne]; exact e3 _ _ (zv2 hx1 _ _ hc)
 have h := h (HA.next + 1) r htn (by omega) (by rw [<- hr]) (by rw [<- hr]) hyield
 rw [zer] at h; obtain ⟨⟨g, as⟩, hra, hw⟩ := h
 unfold zld at hra; rw [zac] at hra; obtain ⟨⟨qf, q1, q2⟩, hq, hra⟩ := hra
 cases qf with
 | yld l => cases hra
 | func g' =>
  simp only [zae, yac] at hra; obtain ⟨⟨hg, hnp⟩, hra⟩ := hra
  cases hra; have hp : C.prims.get g = none := by
   unfold npC at hnp
   cases hx : C.prims.get g with
   | none => rfl
   | some u => rw [hx] at hnp; cases hnp
  have hXd : X HA.next = none := ho.nextX
  have ho1 : Ov C.base t (onX X HA.next (.deferred (some []))) (newBlk HA (.deferred (some []))) := by
   refine ⟨Nat.le_succ_of_le ho.base, fun b hb => ?_, fun b y hb => ?_, fun b y hb => Nat.lt_succ_of_lt (ho.lt _ _ hb)⟩
   ·unfold onX at hb
    split at hb
    ·cases hb
    ·rename_i e
     show (HA.t.set HA.next _).get b = _
     rw [Tr.get_set, if_neg e]; exact ho.same b hb
   ·unfold onX at hb
    show (HA.t.set HA.next _).get b = _ /\ _ /\ b < HA.next + 1
    split at hb
    ·rename_i e; cases hb; subst e; exact ⟨by rw [Tr.get_set, if_pos rfl], ho.nextT, Nat.lt_succ_self _⟩
    ·rename_i e
     obtain ⟨g1, g2, g3⟩ := ho.ext b y hb
     exact ⟨by rw [Tr.get_set, if_neg e]; exact g1, g2, Nat.lt_succ_of_lt g3⟩
  have ho2 := ho1.newBlk (.loop r)
  obtain ⟨v, t', HA2, X2, e1, e2, e3, e4⟩ := hW _ _ _ _ hw _ _ ho2
  rw [zl5 hg, hp] at e1; have e1 : fnV C A (.func g) (zem q1 (.func (.yld (HA.next + 1)) [] [] :: q2)) (newBlk (newBlk HA (.deferred (some []))) (.loop r)) = some (v, HA2) := e1
  have goal : ∀ r' (κ' : KT) (m' : Tm -> zaf -> zbg), t'.get (HA.next + 1) = some (.loop r') -> (!Nat.beq (LoopState.tag r'.state) 1) = true -> (∀ tm H, zme m r'.pending tm H = m' tm H) -> (∀ X0, SK C W J X0 kf Q κ' m') -> wpT C.base W J (κ' st) (t'.del (HA.next + 1)) Q →
    Res C.base X0 Q (zg5 C (fnV C A) f n m fo ps.toList (.region id ops false) (zcw c) tm HA) := by
   intro r' κ' m' k1 k2 k3 k4 k5; have ho3 := e2.under k1 (.loop ⟨.exhausted, r'.pending, r'.fn, r'.n, r'.tm, r'.params, r'.assign, r'.body, r'.defers⟩)
   have hx2 := e2.notX k1
   have hXX : XLe X (onX X2 (HA.next + 1) (.loop ⟨.exhausted, r'.pending, r'.fn, r'.n, r'.tm, r'.params, r'.assign, r'.body, r'.defers⟩)) := ((zv2 hXd).trans e3).trans (zv2 hx2)
   have hd3 : (onX X2 (HA.next + 1) (.loop ⟨.exhausted, r'.pending, r'.fn, r'.n, r'.tm, r'.params, r'.assign, r'.body, r'.defers⟩)) HA.next = some (.deferred (some [])) := by
    refine (zv2 hx2) _ _ (e3 _ _ ?_)
    unfold onX; rw [if_pos rfl]
   have hX0d : X0 HA.next = none := by
    cases hx : X0 HA.next with
    | none => rfl
    | some y => have := hst.le _ _ hx; rw [hXd] at this; cases this
   have hl := hst.later ho3 hXX
   have hl' : zct C.base (onX X0 HA.next (.deferred (some []))) kf ν (onX X2 (HA.next + 1) (.loop ⟨.exhausted, r'.pending, r'.fn, r'.n, r'.tm, r'.params, r'.assign, r'.body, r'.defers⟩)) st tm (endLoop HA2 (HA.next + 1) r') (t'.del (HA.next + 1)) := by
    refine ⟨hl.ov, ?_, hl.k, hl.kA, hl.tms, hl.ads, fun d l hd => ?_, hl.inj⟩
    ·intro b y hb
     unfold onX at hb; split at hb
     ·rename_i e; cases hb; rw [e]; exact hd3
     ·exact hl.le _ _ hb
    ·obtain ⟨g1, g2, g3⟩ := hl.lo d l hd
     refine ⟨?_, g2, g3⟩
     obtain ⟨c', g4, _⟩ := (hst.lo d l hd).2.2
     unfold onX; rw [if_neg (fun e => by rw [e, hXd] at g4; cases g4)]
     exact g1
   obtain ⟨w, t4, HA4, X4, f1, f2, f3, f4⟩ := k4 _ _ _ _ _ _ _ hl' k5
   have hd4 : X4 HA.next = some (.deferred (some [])) := f3 _ _ (by unfold onX; rw [if_pos rfl])
   refine ⟨w, t4, _, _, ?_, f2.setX hd4 (.deferred none), ?_, f4⟩
   ·unfold zg5
    rw [zap (ztt hst).1 hf, zad, hq, zad]
    show (zah (zb2 (C.prims.get g)) _) = _
    rw [hp]; show (ob (fnV C A (.func g) _ (newBlk (newBlk HA (.deferred (some []))) (.loop ⟨.ready, none, f, n, tm, ps.toList, .region id ops false, zcw c, HA.next⟩))) _) = _
    rw [hr, e1, zad, zpu (by omega) (e2.up k1), zad, k2]
    show (ob (zme m r'.pending tm _) _) = _
    rw [k3]; show (ob (m' tm (endLoop HA2 (HA.next + 1) r')) _) = _
    rw [f1, zad]; have : zfk HA4 HA.next = some (some []) := by
     unfold zfk; rw [(f2.ext _ _ hd4).1, zad, Nat.ble_eq_true_of_le (by omega : 256 <= HA.next)]
     rfl
    simp only [this, zad]; rfl
   ·intro b y hb
    have hne : b ≠ HA.next := fun e => by rw [e, hX0d] at hb; cases hb
    show (if b = HA.next then _ else X4 b) = some y
    rw [if_neg hne]; exact f3 _ _ (zv2 hX0d _ _ hb)
  rcases e4 with ⟨k1, k2⟩ | ⟨k1, k2⟩
  ·exact goal r κ.norm m.norm k1 (by rw [<- hr]; rfl) (fun _ _ => by rw [<- hr]; rfl) (fun X0 => (hκ X0).norm) k2
  ·exact goal _ κ.ret m.ret k1 (by rw [<- hr]; rfl) (fun _ _ => by rw [<- hr]; rfl) (fun X0 => (hκ X0).ret) k2
def ROk (A : Tr zbv) (f : Nat) (c : zbv) : Prop := ∀ q ∈ zdz c, ∃ c0, A.get f = some c0 /\ zlh c0 = some q
theorem ROk.l {a b : List zz0} {P : zz0 -> Prop} (h : ∀ q ∈ zem a b, P q) : (∀ q ∈ a, P q) /\ ∀ q ∈ b, P q := by
 rw [zbx] at h; exact ⟨fun q hq => h q (ycd _ hq), fun q hq => h q (ybg _ hq)⟩
theorem zo5 (hW : zje C A W) (hY : zzc3 C A W) {la : List Nat} {f : Nat} : ∀ (c : zbv) (κ : KtT) (m : Kt), ROk A f c -> (∀ X0, SKt C W J X0 kf Q κ m) -> JOk C.base kf J (zdn C (fnV C A) f n c m) -> ∀ X0, SK C W J X0 kf Q (zx2 C la f n c κ) (den C (fnV C A) f n c m) := by
 intro c; induction c with
 | skip => intro κ m _ hκ _ X0; exact (hκ X0).norm
 | region id ops d => intro κ m _ hκ _ X0; exact z2g hW (hκ X0).norm
 | seq a b iha ihb =>
  intro κ m hR hκ hJ; exact iha ⟨zx2 C la f n b κ, κ.exit, κ.ret⟩ ⟨den C (fnV C A) f n b m, m.exit, m.ret⟩ (ROk.l hR).1 (fun X0 => ⟨ihb κ m (ROk.l hR).2 hκ (fun d hd => hJ d (ybg _ hd)) X0, (hκ X0).exit, (hκ X0).ret⟩) fun d hd => hJ d (ycd _ hd)
 | cond x a b iha ihb =>
  intro κ m hR hκ hJ X0 st tm HA t X ν hst h; have ha := iha κ m (ROk.l hR).1 hκ (fun d hd => hJ d (ycd _ hd)) X0
  have hb := ihb κ m (ROk.l hR).2 hκ (fun d hd => hJ d (ybg _ hd)) X0
  have h : wpT C.base W J (obT (ob (ev x (.now st.tm)) zab.asBool) fun b' => bif zzdv x st.lit then Bool.rec (motive := fun _ => T) (zx2 C la f n b κ st) (zx2 C la f n a κ st) b' else .ite b' (zx2 C la f n a κ st) (zx2 C la f n b κ st)) t Q := h
  rw [za4] at h; obtain ⟨w, h1, h2⟩ := h
  rw [zac] at h1; obtain ⟨v, h3, h4⟩ := h1
  show Res C.base X0 Q (ob (ob (ev x (.now tm)) zab.asBool) fun t => Bool.rec (motive := fun _ => zbg) (den C (fnV C A) f n b m tm HA) (den C (fnV C A) f n a m tm HA) t)
  refine Res.ob (a := w) (by rw [zap (ztt hst).1 h3]; exact h4) ?_
  have h2 : if w = true then wpT C.base W J (zx2 C la f n a κ st) t Q else wpT C.base W J (zx2 C la f n b κ st) t Q := by
   rw [zak] at h2; split at h2
   ·cases w <;> exact h2
   ·exact h2
  cases w with
  | true => exact ha _ _ _ _ _ _ hst h2
  | false => exact hb _ _ _ _ _ _ hst h2
 | block id c ih =>
  intro κ m hR hκ hJ; refine ih ⟨κ.norm, fun i st => Bool.rec (motive := fun _ => T) (κ.exit i st) (κ.norm st) (Nat.beq id i), κ.ret⟩ ⟨m.norm, fun i tm H => Bool.rec (motive := fun _ => zbg) (m.exit i tm H) (m.norm tm H) (Nat.beq id i), m.ret⟩ hR (fun X0 => ⟨(hκ X0).norm, fun i => ?_, (hκ X0).ret⟩) hJ
  intro st tm HA t X ν hst h; have h : wpT C.base W J (Bool.rec (motive := fun _ => T) (κ.exit i st) (κ.norm st) (Nat.beq id i)) t Q := h
  show Res C.base X0 Q (Bool.rec (motive := fun _ => zbg) (m.exit i tm HA) (m.norm tm HA) (Nat.beq id i))
  cases hb : Nat.beq id i with
  | true => rw [hb] at h; exact (hκ X0).norm _ _ _ _ _ _ hst h
  | false => rw [hb] at h; exact (hκ X0).exit i _ _ _ _ _ _ hst h
 | loop p c ih => intro κ m _ hκ hJ X0; exact zy2 hJ yaz
 | exit id => intro κ m _ hκ _ X0; exact (hκ X0).exit id
 | ret => intro κ m _ hκ _ X0; exact (hκ X0).ret
 | cut p c ih => intro κ m _ hκ hJ X0; exact zy2 hJ yaz
 | range i pl fo ps id ops c ih => intro κ m hR hκ hJ X0; exact z6a hW hY hκ (hR _ yaz) fun vals t Q h => hJ _ yaz vals t Q h
def PtOk (C : Ctx) (W J : zgy) (kf : Nat) (l : List PtT) (d : PtD) : Prop := ∃ q ∈ l, q.p = d.p /\ ∀ vals t Q, wpT C.base W J (q.tree vals) t Q -> zzc8 C.base kf d vals t Q
def keptOk (kf : Nat) : zbv -> Bool
 | .seq a b => keptOk kf a && keptOk kf b
 | .cond _ a b => keptOk kf a && keptOk kf b
 | .block _ c => keptOk kf c
 | .loop p c => p.kept.all (fun i => Nat.blt i kf) && keptOk kf c
 | .cut p c => p.kept.all (fun i => Nat.blt i kf) && keptOk kf c
 | .range _ _ _ _ _ _ c => keptOk kf c
 | _ => true
theorem z6j (hW : zje C A W) (hY : zzc3 C A W) {la : List Nat} {f : Nat} : ∀ (c : zbv) (κ : KtT) (m : Kt), ROk A f c -> keptOk kf c = true -> (∀ X0 Q, SKt C W J X0 kf Q κ m) -> JOk C.base kf J (zdn C (fnV C A) f n c m) -> ∀ d ∈ zdn C (fnV C A) f n c m, PtOk C W J kf (zi2 C la f n kf c κ) d := by
 have up : ∀ {l l' : List PtT} {d : PtD}, PtOk C W J kf l d -> (∀ q ∈ l, q ∈ l') -> PtOk C W J kf l' d := fun ⟨q, h1, h2⟩ hl => ⟨q, hl q h1, h2⟩
 intro c; induction c with
 | skip => intro κ m _ _ _ _ d hd; cases hd
 | region id ops dr => intro κ m _ _ _ _ d hd; cases hd
 | seq a b iha ihb =>
  intro κ m hR hk hκ hJ d hd; unfold keptOk at hk; rw [yac] at hk; have e : zi2 C la f n kf (.seq a b) κ = zi2 C la f n kf a ⟨zx2 C la f n b κ, κ.exit, κ.ret⟩ ++ zi2 C la f n kf b κ := zbx _ _
  rw [e]; have hJa : JOk C.base kf J (zdn C (fnV C A) f n a ⟨den C (fnV C A) f n b m, m.exit, m.ret⟩) := fun d hd => hJ d (ycd _ hd)
  have hJb : JOk C.base kf J (zdn C (fnV C A) f n b m) := fun d hd => hJ d (ybg _ hd)
  rcases List.mem_append.1 hd with hd | hd
  ·exact up (iha ⟨zx2 C la f n b κ, κ.exit, κ.ret⟩ ⟨den C (fnV C A) f n b m, m.exit, m.ret⟩ (ROk.l hR).1 hk.1 (fun X0 Q => ⟨zo5 hW hY b κ m (ROk.l hR).2 (fun X0 => hκ X0 Q) hJb X0, (hκ X0 Q).exit, (hκ X0 Q).ret⟩) hJa d hd) fun q hq => ycd _ hq
  ·exact up (ihb _ _ (ROk.l hR).2 hk.2 hκ hJb d hd) fun q hq => ybg _ hq
 | cond x a b iha ihb =>
  intro κ m hR hk hκ hJ d hd; unfold keptOk at hk; rw [yac] at hk; have e : zi2 C la f n kf (.cond x a b) κ = zi2 C la f n kf a κ ++ zi2 C la f n kf b κ := zbx _ _
  rw [e]; rcases List.mem_append.1 hd with hd | hd
  ·exact up (iha _ _ (ROk.l hR).1 hk.1 hκ (fun d hd => hJ d (ycd _ hd)) d hd) fun q hq => ycd _ hq
  ·exact up (ihb _ _ (ROk.l hR).2 hk.2 hκ (fun d hd => hJ d (ybg _ hd)) d hd) fun q hq => ybg _ hq
 | block id c ih =>
  intro κ m hR hk hκ hJ d hd; refine ih ⟨κ.norm, fun i st => Bool.rec (motive := fun _ => T) (κ.exit i st) (κ.norm st) (Nat.beq id i), κ.ret⟩ ⟨m.norm, fun i tm H => Bool.rec (motive := fun _ => zbg) (m.exit i tm H) (m.norm tm H) (Nat.beq id i), m.ret⟩ hR hk (fun X0 Q => ⟨(hκ X0 Q).norm, fun i => ?_, (hκ X0 Q).ret⟩) hJ d hd
  intro st tm HA t X ν hst h; have h : wpT C.base W J (Bool.rec (motive := fun _ => T) (κ.exit i st) (κ.norm st) (Nat.beq id i)) t Q := h
  show Res C.base X0 Q (Bool.rec (motive := fun _ => zbg) (m.exit i tm HA) (m.norm tm HA) (Nat.beq id i))
  cases hb : Nat.beq id i with
  | true => rw [hb] at h; exact (hκ X0 Q).norm _ _ _ _ _ _ hst h
  | false => rw [hb] at h; exact (hκ X0 Q).exit i _ _ _ _ _ _ hst h
 | loop p c ih =>
  intro κ m hR hk hκ hJ d hd; unfold keptOk at hk; rw [yac, ybc] at hk; have hJc : JOk C.base kf J (zdn C (fnV C A) f n c ⟨den C (fnV C A) f n (.loop p c) m, m.exit, m.ret⟩) := fun d hd => hJ d (yas _ hd)
  have hκ' : ∀ X0 Q, SKt C W J X0 kf Q ⟨z3c p, κ.exit, κ.ret⟩ ⟨den C (fnV C A) f n (.loop p c) m, m.exit, m.ret⟩ := fun X0 Q => ⟨zy2 hJ yaz, (hκ X0 Q).exit, (hκ X0 Q).ret⟩
  rcases yat.1 hd with rfl | hd
  ·refine ⟨_, yaz, rfl, fun vals t Q hw X0 X HA tm ν hst => ?_⟩
   show Res C.base X0 Q (den C (fnV C A) f n (.loop p c) m tm HA)
   rw [zzco]; exact zo5 hW hY c _ _ hR (fun X0 => hκ' X0 Q) hJc X0 _ _ _ _ _ _ (hst.keep fun i hi => zcz.1 (hk.1 i hi)) hw
  ·exact up (ih ⟨z3c p, κ.exit, κ.ret⟩ ⟨den C (fnV C A) f n (.loop p c) m, m.exit, m.ret⟩ hR hk.2 hκ' hJc d hd) fun q hq => yas _ hq
 | exit id => intro κ m _ _ _ _ d hd; cases hd
 | ret => intro κ m _ _ _ _ d hd; cases hd
 | cut p c ih =>
  intro κ m hR hk hκ hJ d hd; unfold keptOk at hk; rw [yac, ybc] at hk; have hJc : JOk C.base kf J (zdn C (fnV C A) f n c m) := fun d hd => hJ d (yas _ hd)
  rcases yat.1 hd with rfl | hd
  ·refine ⟨_, yaz, rfl, fun vals t Q hw X0 X HA tm ν hst => ?_⟩
   exact zo5 hW hY c _ _ hR (fun X0 => hκ X0 Q) hJc X0 _ _ _ _ _ _ (hst.keep fun i hi => zcz.1 (hk.1 i hi)) hw
  ·exact up (ih _ _ hR hk.2 hκ hJc d hd) fun q hq => yas _ hq
 | range i pl fo ps id ops c ih =>
  intro κ m hR hk hκ hJ d hd; have hR' : ROk A f c := fun q hq => hR q (yas _ hq)
  have hJc : JOk C.base kf J (zdn C (fnV C A) f n c rdK) := fun d hd => hJ d (yas _ hd)
  rcases yat.1 hd with rfl | hd
  ·refine ⟨_, yaz, rfl, fun vals t Q hw X0 X HA tm ν hst => ?_⟩
   exact zo5 hW hY (.seq (.region id ops false) c) rdT rdK (fun q hq => hR' q hq) (fun _ => zzdr) (fun d hd => hJc d hd) X0 _ _ _ _ _ _ hst hw
  ·exact up (ih rdT rdK hR' hk (fun _ _ => zzdr) hJc d hd) fun q hq => yas _ hq
end
end Go.Am
namespace Go.Am
open Go Go.RowKit
def Tr.mapT {α β : Type} (f : α -> β) (t : Tr α) : Tr β := Tr.rec (motive := fun _ => Tr β) .leaf (fun _ v _ l r => .node l (match v with | some a => some (f a) | none => none) r) t
theorem Tr.get_mapT {α β : Type} (f : α -> β) : ∀ (t : Tr α) (n : Nat), (t.mapT f).get n = (t.get n).map f := by
 intro t; induction t with
 | leaf => intro n; rfl
 | node l v r ihl ihr =>
  intro n; show (Tr.node (l.mapT f) (match v with | some a => some (f a) | none => none) (r.mapT f)).get n = _
  rw [Tr.get_node, Tr.get_node]; split
  ·cases v <;> rfl
  ·split
   ·exact ihl _
   ·exact ihr _
def zee (F : Tr zcq) : Tr zbv := F.mapT zcq.code
def fnB (f kf : Nat) (c : zbv) : Bool := Nat.blt f yo && (keptOk kf c && (match zdz c with | [] => true | [_] => true | _ => false))
structure zeb (C : Ctx) (F : Tr zcq) (f : Nat) (fn : Func) (kf : Nat) (A : zcq) : Prop where
 isF : F.get f = some A
 isFn : C.fns.get f = some fn
 isK : C.ks.get f = some kf
 prim : zb2 (C.prims.get f) = true
 kept : fnB f kf A.code = true
 body : zb2 fn.body = false
theorem zeb.lt {C : Ctx} {F : Tr zcq} {f : Nat} {fn : Func} {kf : Nat} {A : zcq} (h : zeb C F f fn kf A) : Nat.blt f yo = true := by
 have := h.kept; unfold fnB at this; rw [yac] at this; exact this.1
theorem zeb.keptOk {C : Ctx} {F : Tr zcq} {f : Nat} {fn : Func} {kf : Nat} {A : zcq} (h : zeb C F f fn kf A) : keptOk kf A.code = true := by
 have := h.kept; unfold fnB at this; simp only [yac] at this; exact this.2.1
theorem zeb.code {C : Ctx} {F : Tr zcq} {f : Nat} {fn : Func} {kf : Nat} {A : zcq} (h : zeb C F f fn kf A) : (zee F).get f = some A.code := by unfold zee; rw [Tr.get_mapT, h.isF]; rfl
theorem zeb.one {C : Ctx} {F : Tr zcq} {f : Nat} {fn : Func} {kf : Nat} {A : zcq} (h : zeb C F f fn kf A) : ROk (zee F) f A.code := by
 have := h.kept
 unfold fnB at this; simp only [yac] at this; intro q hq; refine ⟨_, h.code, ?_⟩
 unfold zlh
 cases hx : zdz A.code with
 | nil => rw [hx] at hq; cases hq
 | cons a l =>
  cases l with
  | nil => rw [hx, yce] at hq; rw [hq]
  | cons _ _ => rw [hx] at this; cases this.2.2
def Wc (C : Ctx) (F : Tr zcq) : zgy := fun f args t Q => ∀ X HA, Ov C.base t X HA -> Res C.base X Q (zzo C (zee F) f args HA)
theorem Wc.mono {C : Ctx} {F : Tr zcq} {f : Nat} {args : List zab} {t : Tr zam} {Q Q' : zay} (h : Wc C F f args t Q) (k : ∀ v t', Q v t' -> Q' v t') : Wc C F f args t Q' := fun X HA ho => (h X HA ho).mono k
theorem Tr.bound {α : Type} (t : Tr α) : ∃ n, ∀ b y, t.get b = some y -> b < n := by
 induction t with
 | leaf => exact ⟨0, fun b y h => by rw [Tr.get_leaf] at h; cases h⟩
 | node l v r ihl ihr =>
  obtain ⟨n, hn⟩ := ihl
  obtain ⟨m, hm⟩ := ihr
  refine ⟨2 * n + 2 * m + 3, fun b y h => ?_⟩
  rw [Tr.get_node] at h; split at h
  ·omega
  ·split at h
   ·have := hn _ _ h; omega
   ·have := hm _ _ h; omega
def PV (C : Ctx) (F : Tr zcq) (f : Nat) (args : List zab) (t : Tr zam) (v : zab) : Prop := Wc C F f args t fun v' t' => v' = v /\ t' = t
theorem PV.unique {C : Ctx} {F : Tr zcq} {f : Nat} {args : List zab} {t : Tr zam} {v v' : zab} (h : PV C F f args t v) (h' : PV C F f args t v') : v = v' := by
 obtain ⟨n, hn⟩ := Tr.bound t
 have ho : Ov C.base t (fun _ => none) ⟨C.base + n, t⟩ := ⟨Nat.le_add_right _ _, fun _ _ => rfl, fun _ _ h => (by cases h), fun b y hb => Nat.lt_of_lt_of_le (hn b y hb) (Nat.le_add_left _ _)⟩
 obtain ⟨u, t', HA', X', h1, _, _, h2, _⟩ := h _ _ ho
 obtain ⟨u', t'', HA'', X'', h3, _, _, h4, _⟩ := h' _ _ ho
 rw [h1] at h3
 cases h3; rw [<- h2, <- h4]
def pvC (C : Ctx) (F : Tr zcq) (f : Nat) (args : List zab) (t : Tr zam) : Option zab := @dite _ (∃ v, PV C F f args t v) (Classical.propDecidable _) (fun h => some h.choose) (fun _ => none)
theorem zbd {C : Ctx} {F : Tr zcq} {f : Nat} {args : List zab} {t : Tr zam} {v : zab} : pvC C F f args t = some v ↔ PV C F f args t v := by
 unfold pvC; constructor
 ·intro h
  by_cases hx : ∃ v, PV C F f args t v
  ·rw [dif_pos hx] at h; cases h; exact hx.choose_spec
  ·rw [dif_neg hx] at h; cases h
 ·intro h
  have hx : ∃ v, PV C F f args t v := ⟨v, h⟩
  rw [dif_pos hx, PV.unique hx.choose_spec h]
def Wq (C : Ctx) (F : Tr zcq) (pure : Nat -> Bool) : zgy := fun f args t R => if (pure f && Nat.blt f yo) = true then zd0 (pvC C F f args t) fun v => R v t else Wc C F f args t R
theorem Wq_ok {C : Ctx} {F : Tr zcq} {pure : Nat -> Bool} : zje C (zee F) (Wq C F pure) := by
 intro f args t R h X HA ho; unfold Wq at h; split at h
 ·rw [zer] at h
  obtain ⟨v, h1, h2⟩ := h
  exact ((zbd.1 h1) X HA ho).mono fun v' t' hh => by rw [hh.1, hh.2]; exact h2
 ·exact h X HA ho
theorem zzel {C : Ctx} {F : Tr zcq} {pure : Nat -> Bool} : zzc3 C (zee F) (Wq C F pure) := by
 intro l args t Q h; unfold Wq; have : Nat.blt (yo + l) yo = false := Bool.eq_false_iff.2 fun e => by have := zcz.1 e; omega
 rw [this, Bool.and_false, if_neg (by simp)]
 exact h
def Jq (C : Ctx) (F : Tr zcq) (f : Nat) : zgy := fun i vals t Q => ∀ fn kf A, zeb C F f fn kf A -> ∀ d ∈ zdn C (fnV C (zee F)) f fn.ntmps A.code (z92 C fn), d.p.id = i -> zzc8 C.base kf d vals t Q
theorem Jq_ok {C : Ctx} {F : Tr zcq} {f : Nat} {fn : Func} {kf : Nat} {A : zcq} (h : zeb C F f fn kf A) : JOk C.base kf (Jq C F f) (zdn C (fnV C (zee F)) f fn.ntmps A.code (z92 C fn)) :=
 fun d hd _ _ _ hJ => hJ fn kf A h d hd rfl
section
variable {W J : zgy} {t : Tr zam} {X X0 : Xt} {HA : zaf} {C : Ctx} {A : Tr zbv} {ν : Nat -> Nat} {Q : zay} {kf n : Nat} {st : TSt} {tm : Tm}
theorem zze8 (hst : zct C.base X0 kf ν X st tm HA t) : ∀ (l : List ResultVar) (K : List zab -> T), wpT C.base W J (resT C st l K) t Q -> ∃ vs, zf2 C HA tm l = some vs /\ wpT C.base W J (K vs) t Q := by
 intro l; induction l with
 | nil => intro K h; exact ⟨[], rfl, h⟩
 | cons r l ih =>
  intro K h
  cases r with
  | tmp i =>
   have h : wpT C.base W J (obT (st.tm.get i) fun v => resT C st l fun l => K (v :: l)) t Q := h
   rw [za4] at h; obtain ⟨v, h1, h2⟩ := h
   obtain ⟨vs, h3, h4⟩ := ih _ h2
   refine ⟨v :: vs, ?_, h4⟩
   show zd7 (zi1 C HA tm) _ = _
   rw [zcb]; show ob (tm.get i) _ = _
   rw [hst.tms _ _ h1, zad]; have h3 : zd7 (zi1 C HA tm) l = some vs := h3
   rw [h3]; rfl
  | cell a ty =>
   have h : wpT C.base W J (match zfr a st.ad with
    | some p => obT (st.lo.get p.1) fun m => obT (C.tys.get ty) fun y => gdT (Nat.ble (p.2 + y.size) (zbp m)) (obT (zkt C ty m p.2) fun v => resT C st l fun l => K (v :: l))
    | none => obT (st.tm.get a) fun a => .light (fun m => za2 C ty ⟨0, m⟩ a) fun v => resT C st l fun l => K (v :: l)) t Q := h
   have fin : ∀ {u v : zab}, tm.get a = some u -> za2 C ty HA u = some v -> wpT C.base W J (resT C st l fun l => K (v :: l)) t Q -> ∃ vs, zf2 C HA tm (.cell a ty :: l) = some vs /\ wpT C.base W J (K vs) t Q := by
    intro u v h1 h2 h3; obtain ⟨vs, h4, h5⟩ := ih _ h3
    refine ⟨v :: vs, ?_, h5⟩
    show zd7 (zi1 C HA tm) _ = _
    rw [zcb]; have e : zi1 C HA tm (.cell a ty) = some v := by
     show (ob (ob (tm.get a) zab.asPtr) fun p => ob (C.tys.get ty) fun ty => ob (zaq HA p.1) fun c => zmw ty c.1 p.2) = some v
     unfold za2 at h2; rw [h1, zad]; exact h2
    have h4 : zd7 (zi1 C HA tm) l = some vs := h4
    rw [e, zad, h4]; rfl
   split at h
   ·rename_i p hp
    simp only [za4, zfm] at h; obtain ⟨m, h1, y, h2, h3, v, h4, h5⟩ := h
    exact fin (hst.ads _ _ hp) (z06 hst.ov hst.lo h1 h2 h3 h4) h5
   ·simp only [za4, zjg] at h
    obtain ⟨u, h1, v, h2, h3⟩ := h
    exact fin (hst.tms _ _ h1) (zrn hst.ov.le h2) h3
theorem z8v {fn : Func} : SK C W J X0 kf Q (endT C fn) (endK C fn) := by
 intro st tm HA t X ν hst h; obtain ⟨vs, h1, h2⟩ := zze8 hst _ _ h
 unfold endK; exact Res.ob h1 ⟨_, t, HA, X, rfl, hst.ov, hst.le, h2⟩
theorem z47 {fn : Func} : SKt C W J X0 kf Q (topT C fn) (z92 C fn) := ⟨z8v, fun _ _ _ _ _ _ _ _ h => h.elim, z8v⟩
end
section
variable {C : Ctx} {F : Tr zcq} {f : Nat} {fn : Func} {kf : Nat} {A : zcq} {pure : Nat -> Bool} {t : Tr zam} {Q : zay}
theorem zce (h : zeb C F f fn kf A) {args : List zab} (hl : (Nat.ble (zbp args) kf && Nat.ble (zbp args) fn.ntmps) = true) (hw : wpT C.base (Wq C F pure) (Jq C F f) (entT C fn kf f A args) t Q) : Wc C F f args t Q := by
 intro X HA ho; have hA := h.code
 obtain ⟨body, hb⟩ : ∃ b, fn.body = some b := by
  cases hx : fn.body with
  | none => have := h.body; rw [hx] at this; cases this
  | some b => exact ⟨b, rfl⟩
 have he : zey C f args false = some ⟨[.code body], ⟨kf, Tr.ofList args, []⟩, ⟨f, fn.ntmps, [], .run, false, none⟩⟩ := by
  unfold zey; rw [h.isFn, zad, hb, zad, h.isK, zad, hl]; rfl
 have hp : C.prims.get f = none := by
  cases hx : C.prims.get f with
  | none => rfl
  | some g => have := h.prim; rw [hx] at this; cases this
 rw [zl5 h.lt, hp]; show Res C.base X Q (fnV C (zee F) (.func f) args HA)
 rw [zzef]; show Res C.base X Q (z4g C (zee F) (fnV C (zee F)) f args HA)
 unfold z4g; refine Res.ob hA (Res.ob h.isFn (Res.ob he ?_))
 have hst : zct C.base X kf (fun i => i) X ⟨⟨kf, Tr.ofList args, []⟩, [], .leaf, []⟩ ⟨kf, Tr.ofList args, []⟩ HA t :=
  ⟨ho, XLe.refl _, rfl, rfl, fun _ _ h => h, fun _ _ h => (by cases h), fun d l h => (by rw [Tr.get_leaf] at h; cases h), fun d _ l _ h => (by rw [Tr.get_leaf] at h; cases h)⟩
 exact zo5 Wq_ok zzel A.code (topT C fn) (z92 C fn) h.one (fun _ => z47) (Jq_ok h) _ _ _ _ _ _ _ hst hw
theorem Jq_of (h : zeb C F f fn kf A) {i : Nat} {vals : List zab} {l : List T} (hp : z6k (ptsT C fn kf f A) i vals = l) (hw : ∀ T ∈ l, wpT C.base (Wq C F pure) (Jq C F f) T t Q) : Jq C F f i vals t Q := by
 intro fn' kf' A' h' d hd hi; have e1 := h.isFn; rw [h'.isFn] at e1; cases e1
 have e2 := h.isK; rw [h'.isK] at e2; cases e2
 have e3 := h.isF; rw [h'.isF] at e3; cases e3
 obtain ⟨q, h1, h2, h3⟩ := z6j (W := Wq C F pure) Wq_ok zzel A.code (topT C fn) (z92 C fn) h.one h.keptOk (fun _ _ => z47) (Jq_ok h) d hd
 refine h3 vals t Q (hw _ ?_)
 subst hp; have key : ∀ (l : List PtT), q ∈ l -> q.tree vals ∈ z6k l i vals := by
  intro l; induction l with
  | nil => intro h; cases h
  | cons p l ih =>
   intro hm; show q.tree vals ∈ (bif Nat.beq p.p.id i then p.tree vals :: z6k l i vals else z6k l i vals)
   rw [zak]; rcases yat.1 hm with e | hm
   ·subst e
    rw [if_pos (by rw [h2]; exact zck.2 hi)]
    exact yaz
   ·split
    ·exact yas _ (ih hm)
    ·exact ih hm
 exact key _ h1
theorem zcg (h : zeb C F f fn kf A) {i : Nat} {vals : List zab} {T : T} (hp : z6k (ptsT C fn kf f A) i vals = [T]) (hw : wpT C.base (Wq C F pure) (Jq C F f) T t Q) : Jq C F f i vals t Q :=
 Jq_of h hp fun T' hT => by rw [yce.1 hT]; exact hw
theorem zyj {g : List zab -> zaf -> Option zab} (hg : C.prims.get f = some (zks g)) {args : List zab} {v : zab} (h : ∀ H, g args H = some v) (hf : Nat.blt f yo = true := by rfl) : pvC C F f args t = some v := by
 refine zbd.2 fun X HA ho => ?_
 rw [zl5 hf, hg]; exact ⟨v, t, HA, X, by simp only [zks, h HA, zad], ho, XLe.refl _, rfl, rfl⟩
theorem zza8 {args : List zab} {v : zab} (h : Wc C F f args t fun v' t' => v' = v /\ ∀ b y, t.get b = some y -> t'.get b = some y) : pvC C F f args t = some v := by
 refine zbd.2 fun X HA ho => ?_
 obtain ⟨u, t', HA', X', h1, h2, h3, h4, h5⟩ := h X HA ho
 refine ⟨u, t, HA', fun b => match t.get b with | some _ => none | none => HA'.t.get b, h1, ⟨h2.base, ?_, ?_, ?_⟩, ?_, h4, rfl⟩
 ·intro b hb
  cases hg : t.get b with
  | some y => rw [h2.up (h5 b y hg)]
  | none => simp only [hg] at hb; exact hb
 ·intro b y hb
  cases hg : t.get b with
  | some y => simp only [hg] at hb; cases hb
  | none =>
   simp only [hg] at hb; refine ⟨hb, rfl, ?_⟩
   cases hx : X' b with
   | some z => exact (h2.ext b z hx).2.2
   | none => rw [h2.same b hx] at hb; exact h2.lt b y hb
 ·intro b y hb; exact h2.lt b y (h5 b y hb)
 ·intro b y hb
  have hn := (ho.ext b y hb).2.1
  simp only [hn]; exact (h2.ext b y (h3 b y hb)).1
end
theorem zzn {P : Program} {C : Ctx} {F : Tr zcq} {B N : Nat} {I : World -> Prop} {μ : Mu} {w : World} (hS : Sim P C B N I) (hI : I w) (hA : zk1 C (zee F)) {f : Nat} (hp : C.prims.get f = none) {args : List zab} {args' : Array Value} {H : zaf} {Q : zay} (hbase : C.base <= H.next) (hlt : ∀ b y, H.t.get b = some y -> b < H.next) (hH : za3 B N μ H w) (hl : za9 μ args args'.toList)
  (h : Wc C F f args H.t Q) (hf : Nat.blt f yo = true := by rfl) : Calls P f args' w fun e w' => ∃ v v' t' μ', e = .returned v' /\ μ.lw μ' /\ zal μ' v v' /\ Q v t' /\ Below N w w' := by
 obtain ⟨v, t', HA', X', h1, h2, h3, h4⟩ := h (fun _ => none) H ⟨hbase, fun _ _ => rfl, fun _ _ h => (by cases h), hlt⟩
 rw [zl5 hf, hp] at h1; intro base; obtain ⟨e, w', b, ⟨v', μ', g1, g2, g3, g4, g5⟩, g6⟩ := zw0 hS hI hA hH hl h1 base
 exact ⟨e, w', b, ⟨v, v', t', μ', g1, g2, g3, h4, g5⟩, g6⟩
end Go.Am
namespace Go.Am
open Go Go.RowKit
def piOf (i : Nat) (l : List (Nat × PI)) : Option PI := List.rec (motive := fun _ => Option PI) none (fun a _ g => bif Nat.beq i a.1 then some a.2 else g) l
def cutP (p : Option PI) (c : zbv) : zbv :=
 match p with
 | some p => .cut p c
 | none => c
def zzfm (p : Option PI) (c : zbv) : zbv :=
 match p with
 | some p => .loop p c
 | none => .loop ⟨0, [], []⟩ c
def rangeP (p : Option PI) (f : Operand) (ps : Array Nat) (a : Code) (c : zbv) : zbv :=
 match a with
 | .region id ops _ => .range (match p with | some p => p.id | none => 0) (match p with | some p => p.pl | none => []) f ps id ops c
 | _ => .skip
def z1g : Code -> Bool
 | .region _ _ d => !d
 | _ => false
def zmc (rt lt : List (Nat × PI)) (c : Code) : Nat -> zbv :=
 Code.rec (motive := fun _ => Nat -> zbv)
  (fun _ => .skip)
  (fun id ops d _ => cutP (piOf id rt) (.region id ops d))
  (fun _ _ ga gb k => .seq (ga k) (gb k))
  (fun c _ _ gx gy k => .cond c (gx k) (gy k))
  (fun id _ g _ => .block id (g id))
  (fun _ g k => zzfm (piOf k lt) (g k))
  (fun f ps a _ _ gb k => rangeP (piOf k lt) f ps a (gb k))
  (fun id _ => .exit id)
  (fun _ _ _ => .skip)
  (fun _ _ => .skip)
  (fun _ _ => .skip)
  (fun _ => .ret)
  (fun _ _ => .skip) c
def zb7 (rt lt : List (Nat × PI)) (k : Nat) (c : Code) : zbv := zmc rt lt c k
def zhr (c : Code) : Bool :=
 Code.rec (motive := fun _ => Bool) true (fun _ _ _ => true) (fun _ _ a b => bif a then b else false) (fun _ _ _ a b => bif a then b else false) (fun _ _ a => a) (fun _ a => a)
  (fun _ _ a _ _ b => bif z1g a then b else false) (fun _ => true) (fun _ _ => false) (fun _ => false) (fun _ => false) true (fun _ => false) c
theorem z3r (p : Option PI) (c : zbv) : zcw (cutP p c) = zcw c := by cases p <;> rfl
theorem zzc (p : Option PI) (c : zbv) : zcw (zzfm p c) = .loop (zcw c) := by cases p <;> rfl
theorem zzd {rt lt : List (Nat × PI)} : ∀ (c : Code) (k : Nat), zhr c = true -> zcw (zmc rt lt c k) = c := by
 intro c; induction c with
 | skip => intro k _; rfl
 | region id ops d => intro k _; show zcw (cutP _ _) = _; rw [z3r]; rfl
 | seq a b iha ihb =>
  intro k h; have h : (bif zhr a then zhr b else false) = true := h
  have ha : zhr a = true := by cases hx : zhr a with | true => rfl | false => rw [hx] at h; cases h
  have hb : zhr b = true := by rw [ha] at h; exact h
  show Code.seq (zcw (zmc rt lt a k)) (zcw (zmc rt lt b k)) = _
  rw [iha k ha, ihb k hb]
 | cond c x y ihx ihy =>
  intro k h; have h : (bif zhr x then zhr y else false) = true := h
  have ha : zhr x = true := by cases hx : zhr x with | true => rfl | false => rw [hx] at h; cases h
  have hb : zhr y = true := by rw [ha] at h; exact h
  show Code.cond c (zcw (zmc rt lt x k)) (zcw (zmc rt lt y k)) = _
  rw [ihx k ha, ihy k hb]
 | block id c ih => intro k h; show Code.block id (zcw (zmc rt lt c id)) = _; rw [ih id h]
 | loop c ih => intro k h; show zcw (zzfm _ (zmc rt lt c k)) = _; rw [zzc, ih k h]
 | exit id => intro k _; rfl
 | ret => intro k _; rfl
 | rangeFunc f ps a b _ ihb =>
  intro k h; have h : (bif z1g a then zhr b else false) = true := h
  cases a with
  | region id ops d =>
   cases d with
   | true => cases h
   | false => show Code.rangeFunc f ps (.region id ops false) (zcw (zmc rt lt b k)) = _; rw [ihb k h]
  | _ => cases h
 | scope c _ => intro k h; cases h
 | label l => intro k h; cases h
 | goto l => intro k h; cases h
 | refuse s => intro k h; cases h
def tabF (l : List (Nat × zcq)) : Tr zcq := List.rec (motive := fun _ => Tr zcq) .leaf (fun p _ g => g.set p.1 p.2) l
theorem zzai {l : List (Nat × zcq)} {f : Nat} {A : zcq} (h : (tabF l).get f = some A) : (f, A) ∈ l := by
 induction l with
 | nil => rw [show tabF [] = .leaf from rfl, Tr.get_leaf] at h; cases h
 | cons p l ih =>
  have h : ((tabF l).set p.1 p.2).get f = some A := h
  rw [Tr.get_set] at h; split at h
  ·rename_i e; cases h; rw [e]; exact yaz
  ·exact yas _ (ih h)
def zzen (C : Ctx) (p : Nat × zcq) : Prop := ∃ fn c, C.fns.get p.1 = some fn /\ fn.body = some c /\ zcw p.2.code = c
theorem za8 {C : Ctx} {f : Nat} {fn : Func} {c : Code} {rt lt : List (Nat × PI)} {la : List Nat} (h1 : C.fns.get f = some fn) (h2 : fn.body = some c) (h3 : zhr c = true) : zzen C (f, ⟨zb7 rt lt 0 c, la⟩) := ⟨fn, c, h1, h2, zzd c 0 h3⟩
theorem z3x {C : Ctx} {l : List (Nat × zcq)} (h : ∀ p ∈ l, zzen C p) : zk1 C (zee (tabF l)) := by
 intro f c hc; unfold zee at hc; rw [Tr.get_mapT] at hc
 cases hq : (tabF l).get f with
 | none => rw [hq] at hc; cases hc
 | some A =>
  rw [hq] at hc
  cases hc; obtain ⟨fn, b, h1, h2, h3⟩ := h _ (zzai hq)
  exact ⟨fn, h1, by rw [h2, h3]⟩
end Go.Am
namespace Go.Am
class zc6 where
 n : Nat
def zzbb (a : List zab) (_ : zaf) : Option zab := match a with | [] => some (.bool true) | _ => none
def z3d : List Nat -> List Nat -> Bool
 | [], _ => true
 | _ :: _, [] => false
 | a :: x, b :: y => bif Nat.beq a b then z3d x y else false
def cutL (sub : List Nat) : List Nat -> Option (List Nat × List Nat)
 | [] => bif sub.isEmpty then some ([], []) else none
 | b :: l => bif z3d sub (b :: l) then some ([], zln (b :: l) (zbp sub)) else ob (cutL sub l) fun p => some (b :: p.1, p.2)
def pCut (a : List zab) (_ : zaf) : Option zab := match a with
 | [.str s, .str c] => zah (Nat.blt (zbp s) 4294967281) (match cutL c s with
  | some p => some (.tup [.str p.1, .str p.2, .bool true])
  | none => some (.tup [.str s, .str [], .bool false]))
 | _ => none
def zi6 (n : Int) : List Nat := (Lib.itoa n).map UInt8.toNat
def z2x (a : List zab) (_ : zaf) : Option zab := match a with
 | [.int .i64 n] => zah (iLe (-9223372036854775808) n && iLt n 9223372036854775808) (some (.str (zi6 n)))
 | _ => none
def z6n (a : List zab) (_ : zaf) : Option zab := match a with
 | [.int .u64 n, .int .i64 b] => zah (iLe 0 n && iLt n 18446744073709551616 && iEq b 10) (some (.str (zi6 n)))
 | _ => none
end Go.Am
