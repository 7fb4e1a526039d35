/- Trees: regions that draw, code, points; what a function's tree is worth. -/
import Derived.Lib.Bytealg
import Derived.Lib.Index
import Derived.Lib.IndexMore
import Derived.Lib.ItoaNum
import Derived.Shelf.Strings.Builder1
import Derived.Test.YtfmlbimokklmgaaGreatDoorA06
set_option linter.all false
noncomputable section
namespace Go.Am
open Go Go.RowKit
structure zvs (ν : Nat -> Nat) (old : TSt) (oldA : Tm) : Prop where
 tms : ∀ i v, old.tm.get i = some v -> oldA.get i = some v
 ads : ∀ i p, zio i old.ad = some p -> oldA.get i = some (.ptr (ν p.1) p.2)
theorem zdc.old {base : Nat} {X0 X : Xt} {kf : Nat} {ν : Nat -> Nat} {st : TSt} {tm : Tm} {HA : zaf} {t : Tr zav} (h : zdc base X0 kf ν X st tm HA t) : zvs ν st tm := ⟨h.tms, h.ads⟩
theorem Tm.get_cut {tm : Tm} {i : Nat} : tm.cut.get i = if i < tm.k then tm.get i else none := by
 unfold Tm.cut Tm.get; simp only [zqk]; by_cases h : Nat.blt i tm.k = true
 ·rw [yab h, yab h, yab (zdk.1 h)]
 ·rw [yaa h, yaa (fun e => h (zdk.2 e))]; rfl
theorem zze2 {k i : Nat} : ∀ {l : List (Nat × Nat × Nat)}, zio i (Env.adCut k l) = if i < k then zio i l else none := by
 intro l; induction l with
 | nil => show none = _; split <;> rfl
 | cons a l ih =>
  grind [Env.adCut, zdk, zhs]
section
variable {W J : zd3} {t : Tr zav} {X X0 : Xt} {HA : zaf} {C : Ctx} {A : Tr zbb} {ν : Nat -> Nat} {Q E : zbo} {kf n : Nat} {st old : TSt} {tm oldA : Tm} {all : Array Oper} {olds : List (Nat × List Nat)}
theorem zdc.cut (h : zdc C.base X0 kf ν X st tm HA t) : zdc C.base X0 kf ν X st.cut tm.cut HA t := by
 refine ⟨h.ov, h.le, h.k, h.kA, ?_, ?_, h.lo, h.inj⟩
 ·intro i v hi
  have hi : st.tm.cut.get i = some v := hi
  rw [Tm.get_cut] at hi ⊢
  split at hi
  ·rename_i e; rw [yab (by rw [h.kA, <- h.k]; exact e)]; exact h.tms i v hi
  grind
 ·intro i p hi
  have hi : zio i (Env.adCut st.tm.k st.ad) = some p := hi
  rw [zze2] at hi; rw [Tm.get_cut]; split at hi
  ·rename_i e; rw [yab (by rw [h.kA, <- h.k]; exact e)]; exact h.ads i p hi
  grind
theorem zm2 (h : zdc C.base X0 kf ν X st tm HA t) (ho : zvs ν old oldA) {os : List Nat} {op : Op} : zpr (z2m st old os op) (.mixed tm oldA os (zb9 op)) /\ zps ν (zzg5 st old os op) (.mixed tm oldA os (zb9 op)) := by
 constructor
 ·intro i v hi
  have hi : (bif zc6 i (zb9 op) then Tm.get (bif zc6 i os then old.tm else st.tm) i else none) = some v := hi
  show (bif zc6 i (zb9 op) then Tm.get (bif zc6 i os then oldA else tm) i else none) = some v
  cases hm : zc6 i (zb9 op) with
  | false => simp_all
  | true =>
   rw [hm] at hi; simp only [cond_true] at hi ⊢
   cases hq : zc6 i os with
   | true => rw [hq] at hi; exact ho.tms i v hi
   | false => rw [hq] at hi; exact h.tms i v hi
 ·intro i p hi
  have hi : (bif zc6 i (zb9 op) then zio i (bif zc6 i os then old.ad else st.ad) else none) = some p := hi
  show (bif zc6 i (zb9 op) then Tm.get (bif zc6 i os then oldA else tm) i else none) = _
  cases hm : zc6 i (zb9 op) with
  | false => simp_all
  | true =>
   rw [hm] at hi; simp only [cond_true] at hi ⊢
   cases hq : zc6 i os with
   | true => rw [hq] at hi; exact ho.ads i p hi
   | false => rw [hq] at hi; exact h.ads i p hi
theorem zoy (ho : zvs ν old oldA) {κ : KT} {kd : Tm -> zbt} (hκ : ∀ st' tm', zdc C.base X0 kf ν X st' tm' HA t -> wpT C.base W J (κ st') t Q -> Res C.base X0 E Q (kd tm')) :
  ∀ (l : List Nat) (st : TSt) (tm : Tm), zdc C.base X0 kf ν X st tm HA t -> wpT C.base W J (zge C all n old olds κ l st) t Q -> Res C.base X0 E Q (zch C HA all n oldA olds kd l tm) := by
 intro l; induction l with
 | nil => exact hκ
 | cons i l ih =>
  intro st tm hst h; have h : wpT C.base W J (obT (zev all.toList i) fun o => obT (zbi o.guard all st.tm) fun w => Bool.rec (motive := fun _ => T) (z36 n o.dst zbj false st (zge C all n old olds κ l))
   (tL C o.op (z2m st old (zda i olds) o.op) (zzg5 st old (zda i olds) o.op) st.lo (kop C all n o (z2m st old (zda i olds) o.op) st (zge C all n old olds κ l))) w) t Q := h
  rw [zbn] at h; obtain ⟨o, h0, h⟩ := h
  rw [zbn] at h; obtain ⟨w, h1, h2⟩ := h
  rw [zi0]; refine Res.ob h0 (Res.ob (zra hst h1) ?_)
  cases w with
  | false =>
   rw [yaa (by simp)]
   obtain ⟨st', h3, h4⟩ := hst.put h2
   grind
  | true =>
   rw [yab rfl]; refine Exists.elim (zzlt (R := fun v => Res C.base X0 E Q (zim C o.type v fun v => zch C HA all n oldA olds kd l (putA n tm o.dst v))) (zm2 hst ho).1 (zm2 hst ho).2 hst.ov hst.lo h2 ?_ ?_ ?_) (fun v h => Res.ob h.1 h.2)
   ·intro v hk
    have hk : wpT C.base W J (z9c C o.type v fun v => zue (zw6 all.toList o.dst all.toList) (zzha o.op (z2m st old (zda i olds) o.op) st.lit) v fun v lt => z36 n o.dst v lt st (zge C all n old olds κ l)) t Q := hk
    obtain ⟨g1, g2⟩ := z38 hk
    obtain ⟨lt', g3⟩ := znf g2
    obtain ⟨st', g4, g5⟩ := hst.put g3
    grind [Res.norm]
   ·intro v hk
    obtain ⟨g1, g2⟩ := zgt.1 hk
    obtain ⟨lt', g3⟩ := znf g2
    obtain ⟨st', g4, g5⟩ := hst.put g3
    grind [Res.norm, zq1]
   ·intro d off hk
    obtain ⟨g1, g2⟩ := zgt.1 hk
    obtain ⟨st', g4, g5⟩ := hst.putA g2
    grind [Res.norm, zxf]
theorem z9b (ho : zvs ν old oldA) (hst : zdc C.base X0 kf ν X st tm HA t) {k : T} {kd : zbt} (hk : wpT C.base W J k t Q -> Res C.base X0 E Q kd) :
  ∀ (l : List Nat), wpT C.base W J (zmg C all old olds st k l) t Q -> Res C.base X0 E Q (zfn C HA all oldA olds tm kd l) := by
 intro l; induction l with
 | nil => exact hk
 | cons i l ih =>
  intro h; have h : wpT C.base W J (obT (zev all.toList i) fun o => obT o.dst fun d => obT (zbi o.guard all st.tm) fun w => Bool.rec (motive := fun _ => T) (zmg C all old olds st k l)
   (obT (st.tm.get d) fun u => gdT (fitB C o.type u) (tL C o.op (z2m st old (zda i olds) o.op) (zzg5 st old (zda i olds) o.op) st.lo ⟨fun v => .ite (same 10 v u) (zmg C all old olds st k l) .fail, fun v => .ite (same 10 v u) (zmg C all old olds st k l) .fail, fun _ _ => .fail⟩)) w) t Q := h
  rw [zbn] at h; obtain ⟨o, h0, h⟩ := h
  rw [zbn] at h; obtain ⟨d, h1, h⟩ := h
  rw [zbn] at h; obtain ⟨w, h2, h⟩ := h
  rw [zna]; refine Res.ob h0 (Res.ob h1 (Res.ob (zra hst h2) ?_))
  cases w with
  | false => simp_all
  | true =>
   rw [yab rfl]; simp only [zbn, zgt] at h; obtain ⟨u, h3, h4, h5⟩ := h
   have fin : ∀ v, wpT C.base W J (.ite (same 10 v u) (zmg C all old olds st k l) .fail) t Q -> Res C.base X0 E Q (zim C o.type v fun v => ob (tm.get d) fun u => zaj (same 10 v u) (zfn C HA all oldA olds tm kd l)) := by
    intro v hv; have hv : if same 10 v u = true then wpT C.base W J (zmg C all old olds st k l) t Q else False := hv
    split at hv
    ·rename_i hs
     refine Res.norm ?_ (Res.ob (hst.tms _ _ h3) ?_)
     ·grind [z1x, zq1]
     ·rw [hs]; exact ih hv
    simp_all
   obtain ⟨v, h6, h7⟩ := zzlt (R := fun v => Res C.base X0 E Q (zim C o.type v fun v => ob (tm.get d) fun u => zaj (same 10 v u) (zfn C HA all oldA olds tm kd l))) (zm2 hst ho).1 (zm2 hst ho).2 hst.ov hst.lo h5 fin fin (fun _ _ h => h.elim)
   simp_all
theorem zzfl (hst : zdc C.base X0 kf ν X st tm HA t) {h : Nat} {o : Oper} {w : Bool} (hw : zht C all h o st.tm = some w) : zht C all h o tm = some w := by
 grind [zht, zac, zra]
theorem z7o {e e' : Env} (he : zpr e e') {op : Op} {ef : Eff} (h : zxm op e = some ef) : zxm op e' = some ef := by
 cases op <;> first | (cases h; done) | skip
 all_goals grind [zxm, zac, za9]
theorem zzlu {op : Op} {e : Env} {ae : zyg} {ef : Eff} (h : tEff op e ae = some ef) : zxm op e = some ef := by
 cases op <;> first | exact h | skip
 grind [tEff]
theorem zzf3 (hst : zdc C.base X0 kf ν X st tm HA t) (ho : zvs ν old oldA) {l : List Nat} {es : List Eff} (h : zzf4 all old olds st l = some es) : z7n all oldA olds tm l = some es := by
 refine zly l (fun i ef h => ?_) h
 unfold zt3; simp only [zac, zae] at h ⊢
 obtain ⟨o, h1, w, h2, h3, h4⟩ := h
 exact ⟨o, h1, w, zra hst h2, h3, z7o (zm2 hst ho).1 (zzlu h4)⟩
theorem z6c (hW : zhc C A E W) (ho : zvs ν old oldA) {κ : KT} {m : Tm -> zaf -> zbt} (hκ : SK C W J X0 kf E Q κ m) :
  ∀ (l : List zc7) (st : TSt) (tm : Tm) (HA : zaf) (t : Tr zav) (X : Xt), zdc C.base X0 kf ν X st tm HA t -> wpT C.base W J (zk0 C all n old olds κ l st) t Q -> Res C.base X0 E Q (zcv C (fnV C A) all n oldA olds m l tm HA) := by
 intro l; induction l with
 | nil => intro st tm HA t X hst h; exact hκ _ _ _ _ _ _ hst h
 | cons s l ih =>
  intro st tm HA t X hst h
  cases hg : zg1 all s with
  | true =>
   have h : wpT C.base W J (Bool.rec (motive := fun _ => T) _ (gdT (zmk C all) (obT (zzf4 all old olds st s.again) fun es => .heavy (zuc C es) fun _ => zge C all n old olds (zk0 C all n old olds κ l) s.lights st)) (zg1 all s)) t Q := h
   rw [hg] at h; have h : wpT C.base W J (gdT (zmk C all) (obT (zzf4 all old olds st s.again) fun es => .heavy (zuc C es) fun _ => zge C all n old olds (zk0 C all n old olds κ l) s.lights st)) t Q := h
   rw [zgt] at h; obtain ⟨h0, h⟩ := h
   rw [zbn] at h; obtain ⟨es, h1, h⟩ := h
   have h := h HA.next hst.ov.nextT hst.ov.base
   rw [zhh] at h; obtain ⟨⟨v, H'⟩, h2, h3⟩ := h
   obtain ⟨HA', h4, h5⟩ := z8z _ _ _ _ _ hst.ov h2
   have h6 : zn8 C es HA = some HA' := by
    grind [zuc, zac]
   rw [zft hg]; unfold z0c; rw [h0]; show Res C.base X0 E Q (ob (z7n all oldA olds tm s.again) fun es => ob (zn8 C es HA) fun H' => zch C H' all n oldA olds (fun tm => zcv C (fnV C A) all n oldA olds m l tm H') s.lights tm)
   refine Res.ob (zzf3 hst ho h1) (Res.ob h6 ?_)
   exact zoy ho (fun st' tm' hs hw => ih _ _ _ _ _ hs hw) _ _ _ (hst.later h5 (XLe.refl _)) h3
  | false =>
  have h : wpT C.base W J (Bool.rec (motive := fun _ => T) (obT (zev all.toList (hvI all s.heavy)) fun o => obT (zht C all s.heavy o st.tm) fun w =>
   (fun cont : KT => Bool.rec (motive := fun _ => T) (z36 n o.dst zbj false st cont)
    (tH C [] o.dst o.op (z2m st old (zda (hvI all s.heavy) olds) o.op) (zzg5 st old (zda (hvI all s.heavy) olds) o.op) st.lo (kop C all n o (z2m st old (zda (hvI all s.heavy) olds) o.op) st cont) (klo C n o st cont)) w)
   (fun st' => zmg C all old olds st' (zge C all n old olds (zk0 C all n old olds κ l) s.lights st') s.again)) _ (zg1 all s)) t Q := h
  rw [hg] at h; have h : wpT C.base W J (obT (zev all.toList (hvI all s.heavy)) fun o => obT (zht C all s.heavy o st.tm) fun w =>
   (fun cont : KT => Bool.rec (motive := fun _ => T) (z36 n o.dst zbj false st cont)
    (tH C [] o.dst o.op (z2m st old (zda (hvI all s.heavy) olds) o.op) (zzg5 st old (zda (hvI all s.heavy) olds) o.op) st.lo (kop C all n o (z2m st old (zda (hvI all s.heavy) olds) o.op) st cont) (klo C n o st cont)) w)
   (fun st' => zmg C all old olds st' (zge C all n old olds (zk0 C all n old olds κ l) s.lights st') s.again)) t Q := h
  rw [zbn] at h; obtain ⟨o, h0, h⟩ := h
  rw [zbn] at h; obtain ⟨w, h1, h2⟩ := h
  rw [zfl hg]; refine Res.ob h0 (Res.ob (zzfl hst h1) ?_)
  have fin : ∀ st' tm' HA' t' X' ν', ν' = ν -> zdc C.base X0 kf ν' X' st' tm' HA' t' -> wpT C.base W J (zmg C all old olds st' (zge C all n old olds (zk0 C all n old olds κ l) s.lights st') s.again) t' Q →
    Res C.base X0 E Q (zfn C HA' all oldA olds tm' (zch C HA' all n oldA olds (fun tm => zcv C (fnV C A) all n oldA olds m l tm HA') s.lights tm') s.again) := by
   intro st' tm' HA' t' X' ν' e hs hw; subst e; exact z9b ho hs (fun hl => zoy ho (fun st2 tm2 hs2 hw2 => ih _ _ _ _ _ hs2 hw2) _ _ _ hs hl) _ hw
  cases w with
  | false =>
   simp only [ybq, if_false]; obtain ⟨st', h3, h4⟩ := hst.put h2
   grind
  | true =>
   simp only [if_true]; exact zzac (m := fun tm' HA' => zfn C HA' all oldA olds tm' (zch C HA' all n oldA olds (fun tm => zcv C (fnV C A) all n oldA olds m l tm HA') s.lights tm') s.again)
    hW (zm2 hst ho).1 (zm2 hst ho).2 hst (fun st' tm' HA' t' X' ν' hn hs _ hw => fin _ _ _ _ _ _ (hn rfl) hs hw) h2
theorem z6e (hW : zhc C A E W) {la : List Nat} {fn id : Nat} {d : Bool} {κ : KT} {m : Tm -> zaf -> zbt} (hκ : SK C W J X0 kf E Q κ m) : SK C W J X0 kf E Q (z87 C la fn n κ id all d) (zo4 C (fnV C A) fn n m id all d) := by
 intro st tm HA t X ν hst h
 cases d with
 | false => exact zzln hW hκ _ _ _ _ _ _ _ hst.cut h
 | true =>
  have h : wpT C.base W J (obT (ob (C.plans.get fn) fun t => t.get id) fun p => gdT (zkr all p) (zge C all n st.cut p.olds (zk0 C all n st.cut p.olds κ p.stages) p.first st.cut)) t Q := h
  simp only [zbn, zgt] at h; obtain ⟨p, h1, h2, h3⟩ := h
  show Res C.base X0 E Q (ob (ob (C.plans.get fn) fun t => t.get id) fun p => zaj (zkr all p) (zch C HA all n tm.cut p.olds (fun tm' => zcv C (fnV C A) all n tm.cut p.olds m p.stages tm' HA) p.first tm.cut))
  refine Res.ob h1 ?_
  rw [h2]; exact zoy hst.cut.old (fun st' tm' hs hw => z6c hW hst.cut.old hκ _ _ _ _ _ _ hs hw) _ _ _ hst.cut h3
end
structure PtD where
 p : PI
 m : Tm -> zaf -> zbt
def zde (C : Ctx) (φ : Ora) (fn n : Nat) : zbb -> Kt -> List PtD
 | .skip, _ => []
 | .region _ _ _, _ => []
 | .seq a b, κ => zde C φ fn n a ⟨den C φ fn n b κ, κ.exit, κ.ret⟩ ++ zde C φ fn n b κ
 | .cond _ x y, κ => zde C φ fn n x κ ++ zde C φ fn n y κ
 | .block id c, κ => zde C φ fn n c ⟨κ.norm, fun i tm H => Bool.rec (motive := fun _ => zbt) (κ.exit i tm H) (κ.norm tm H) (Nat.beq id i), κ.ret⟩
 | .loop p c, κ => ⟨p, den C φ fn n (.loop p c) κ⟩ :: zde C φ fn n c ⟨den C φ fn n (.loop p c) κ, κ.exit, κ.ret⟩
 | .exit _, _ => []
 | .ret, _ => []
 | .cut p c, κ => ⟨p, den C φ fn n (.cut p c) κ⟩ :: zde C φ fn n c κ
 | .range i pl fo ps aq c, _ => ⟨⟨i, zfp pl ps.toList, []⟩, zzip C φ fn n ⟨i, pl, fo, ps, aq, c⟩⟩ :: zde C φ fn n c rdK
def zze4 (base kf : Nat) (E : zbo) (d : PtD) (vals : List zab) (t : Tr zav) (Q : zbo) : Prop := ∀ X0 X HA tm ν, zdc base X0 kf ν X (ztv kf d.p vals) tm HA t -> Res base X0 E Q (d.m tm HA)
def JOk (base kf : Nat) (E : zbo) (J : zd3) (l : List PtD) : Prop := ∀ d ∈ l, ∀ vals t Q, J d.p.id vals t Q -> zze4 base kf E d vals t Q
structure SKt (C : Ctx) (W J : zd3) (X0 : Xt) (kf : Nat) (E Q : zbo) (κ : KtT) (m : Kt) : Prop where
 norm : SK C W J X0 kf E Q κ.norm m.norm
 exit : ∀ i, SK C W J X0 kf E Q (κ.exit i) (m.exit i)
 ret : SK C W J X0 kf E Q κ.ret m.ret
theorem zwd {d : Nat} {l : List zab} {st : TSt} : ∀ {ll : List (Nat × Nat)} {b rest : List zab}, zt8 st ll = some b -> (zzae ll (b ++ rest)).get d = some l -> st.lo.get d = some l := by
 intro ll; induction ll with
 | nil => grind [zzae, Tr.get_leaf]
 | cons p ll ih =>
  intro b rest hb h; have hb : (ob (zio p.1 st.ad) fun a => zaj (Nat.beq a.1 p.1 && Nat.beq a.2 0) (ob (st.lo.get p.1) fun l => zaj (Nat.beq (zbf l) p.2) (ob (zt8 st ll) fun r => some (zfp l r)))) = some b := hb
  simp only [zac, zae] at hb; obtain ⟨a, _, _, l0, h2, h3, r, h4, h5⟩ := hb
  cases h5; have h : ((zzae ll (zm4 (zfp l0 r ++ rest) p.2)).set p.1 (zw0 (zfp l0 r ++ rest) p.2)).get d = some l := h
  grind [zds, za1, zca, ze3, zfz, List.drop_left, Tr.get_set]
theorem zzgg {i : Nat} {q : Nat × Nat} {st : TSt} : ∀ {ll : List (Nat × Nat)} {b : List zab}, zt8 st ll = some b -> zio i (stAd ll) = some q -> zio i st.ad = some q := by
 intro ll; induction ll with
 | nil => intro b _ h; cases h
 | cons p ll ih =>
  grind [zt8, zac, zae, zds, stAd, zhs]
theorem zzge {i : Nat} {v : zab} {st : TSt} : ∀ {pl : List Nat} {a rest : List zab}, zel (fun i => st.tm.get i) pl = some a -> (zyx pl (a ++ rest)).get i = some v -> st.tm.get i = some v := by
 intro pl; induction pl with
 | nil => grind [zyx, Tr.get_leaf]
 | cons j pl ih =>
  intro a rest ha h; rw [zcq, zac] at ha; obtain ⟨u, h1, ha⟩ := ha
  rw [zac] at ha; obtain ⟨r, h2, ha⟩ := ha
  cases ha; have h : ((zyx pl (r ++ rest)).set j u).get i = some v := h
  grind [Tr.get_set]
theorem Tm.get_kv {k i : Nat} {v : Tr zab} {u : zab} (h : Tm.get ⟨k, v, []⟩ i = some u) : i < k /\ v.get i = some u := by
 unfold Tm.get at h; rw [zqk] at h; split at h
 ·simp_all
 ·cases h
theorem z53 {p : PI} {st : TSt} {vals : List zab} (h : zrc p st = some vals) : ∃ a b, vals = a ++ b /\ zel (fun i => st.tm.get i) p.pl = some a /\ zt8 st p.ll = some b /\ a.length = p.pl.length := by
 unfold zrc at h; simp only [zac] at h; obtain ⟨a, h1, b, h2, h3⟩ := h
 cases h3; refine ⟨a, b, zca _ _, h1, h2, ?_⟩
 have : ∀ (l : List Nat) (r : List zab), zel (fun i => st.tm.get i) l = some r -> r.length = l.length := by
  intro l; induction l with
  | nil => intro r h; cases h; rfl
  | cons x l ih =>
   grind [zcq, zac]
 grind
section
variable {W J : zd3} {t : Tr zav} {X X0 : Xt} {HA : zaf} {C : Ctx} {A : Tr zbb} {ν : Nat -> Nat} {Q E : zbo} {kf n : Nat} {st : TSt} {tm : Tm}
theorem zdc.at (h : zdc C.base X0 kf ν X st tm HA t) {p : PI} {vals : List zab} (hv : zrc p st = some vals) : zdc C.base X0 kf ν X (ztv kf p vals) tm HA t := by
 obtain ⟨a, b, rfl, h1, h2, h3⟩ := z53 hv
 have hd : zm4 (a ++ b) (zbf p.pl) = b := by rw [ze3, za1, <- h3, List.drop_left]
 refine ⟨h.ov, h.le, rfl, h.kA, ?_, ?_, ?_, ?_⟩
 ·intro i v hi
  exact h.tms i v (zzge h1 (Tm.get_kv hi).2)
 ·intro i q hi
  exact h.ads i q (zzgg h2 hi)
 ·intro d l hl
  have hl : (zzae p.ll (zm4 (a ++ b) (zbf p.pl))).get d = some l := hl
  rw [hd] at hl; have hb : (zzae p.ll (b ++ [])).get d = some l := by simp_all
  exact h.lo d l (zwd h2 hb)
 ·intro d d' l l' hl hl' he
  have hl : (zzae p.ll (zm4 (a ++ b) (zbf p.pl))).get d = some l := hl
  have hl' : (zzae p.ll (zm4 (a ++ b) (zbf p.pl))).get d' = some l' := hl'
  rw [hd] at hl hl'
  have hb : (zzae p.ll (b ++ [])).get d = some l := by simp_all
  have hb' : (zzae p.ll (b ++ [])).get d' = some l' := by simp_all
  exact h.inj d d' l l' (zwd h2 hb) (zwd h2 hb') he
theorem zzcq {tm : Tm} {i : Nat} {v : zab} (hv : tm.get i = some v) : ∀ {live : List Nat}, i ∈ live -> (z69 tm live).get i = some v := by
 intro live; induction live with
 | nil => simp_all
 | cons j live ih =>
  grind [z69, Tr.get_set]
theorem zzgd {i : Nat} {v : zab} : ∀ {pl : List Nat} {vals : List zab}, (zyx pl vals).get i = some v -> i ∈ pl := by
 intro pl; induction pl with
 | nil => grind [zyx, Tr.get_leaf]
 | cons j pl ih =>
  intro vals h
  cases vals with
  | nil => grind [zyx, Tr.get_leaf]
  | cons u vals =>
   have h : ((zyx pl vals).set j u).get i = some v := h
   grind [Tr.get_set]
theorem zzgf {i : Nat} {q : Nat × Nat} : ∀ {ll : List (Nat × Nat)}, zio i (stAd ll) = some q -> i ∈ (List.rec (motive := fun _ => List Nat) [] (fun a _ r => a.1 :: r) ll : List Nat) := by
 intro ll; induction ll with
 | nil => intro h; cases h
 | cons p ll ih =>
  grind [stAd, zhs]
theorem zdc.keep {p : PI} {vals : List zab} (hb : ∀ i, i ∈ p.kept -> i < kf) (h : zdc C.base X0 kf ν X (ztv kf p vals) tm HA t) : zdc C.base X0 kf ν X (ztv kf p vals) (Am.keep p.kept tm) HA t := by
 have key : ∀ i v, i ∈ p.kept -> tm.get i = some v -> (Am.keep p.kept tm).get i = some v := by
  intro i v hi hv; unfold Am.keep Tm.get; rw [zqk, yab (zdk.2 (by rw [h.kA]; grind))]
  exact zzcq hv hi
 refine ⟨h.ov, h.le, rfl, h.kA, ?_, ?_, h.lo, h.inj⟩
 ·intro i v hi
  refine key i v ?_ (h.tms i v hi)
  unfold PI.kept; rw [zca]; exact ydc _ (zzgd (Tm.get_kv hi).2)
 ·intro i q hi
  refine key i _ ?_ (h.ads i q hi)
  unfold PI.kept; rw [zca]; exact ycf _ (zzgf hi)
theorem z2s {l : List PtD} (hJ : JOk C.base kf E J l) {p : PI} {m : Tm -> zaf -> zbt} (hm : (⟨p, m⟩ : PtD) ∈ l) : SK C W J X0 kf E Q (zt0 p) m := by
 intro st tm HA t X ν hst h; unfold zt0 at h; rw [zbn] at h; obtain ⟨vals, h1, h2⟩ := h
 exact hJ _ hm vals t Q h2 _ _ _ _ _ (hst.at h1)
theorem zzjt : SKt C W J X0 kf E Q rdT rdK := ⟨fun _ tm HA t X _ hst h => ⟨_, t, HA, X, rfl, hst.ov, hst.le, h⟩, fun _ _ _ _ _ _ _ _ h => h.elim, fun _ tm HA t X _ hst h => ⟨_, t, HA, X, rfl, hst.ov, hst.le, h⟩⟩
def zx3 (C : Ctx) (A : Tr zbb) (W : zd3) : Prop := ∀ l args t Q, (∀ X HA, Ov C.base t X HA -> Res C.base X noP Q (zxv C A (yo + l) args HA)) -> W (yo + l) args t Q
def onX (X : Xt) (b : Nat) (y : zav) : Xt := fun c => if c = b then some y else X c
theorem zzo {X : Xt} {b : Nat} {y : zav} (h : X b = none) : XLe X (onX X b y) := by
 intro c z hc; grind [onX]
theorem Ov.under {base : Nat} (h : Ov base t X HA) {b : Nat} {y : zav} (hb : t.get b = some y) (z : zav) : Ov base (t.del b) (onX X b z) (Am.setBlk HA b z) := by
 refine ⟨h.base, fun c hc => ?_, fun c u hc => ?_, fun c u hc => ?_⟩
 ·show (HA.t.set b z).get c = _
  unfold onX at hc; split at hc
  ·cases hc
  ·rename_i e; rw [Tr.get_set, yaa e, Tr.get_del, yaa e]; exact h.same c hc
 ·show (HA.t.set b z).get c = _ /\ _
  unfold onX at hc; split at hc
  ·rename_i e; cases hc; subst e; exact ⟨by rw [Tr.get_set, yab rfl], by rw [Tr.get_del, yab rfl], h.lt _ _ hb⟩
  ·rename_i e
   obtain ⟨g1, g2, g3⟩ := h.ext c u hc
   exact ⟨by grind [Tr.get_set], by grind [Tr.get_del], g3⟩
 ·rw [Tr.get_del] at hc
  split at hc
  ·cases hc
  ·exact h.lt _ _ hc
theorem Ov.back {base : Nat} (h : Ov base t X HA) {b : Nat} {y : zav} (hb : X b = some y) (z : zav) : Ov base (t.set b z) (fun c => if c = b then none else X c) (Am.setBlk HA b z) := by
 obtain ⟨g1, g2, g3⟩ := h.ext b y hb
 refine ⟨h.base, fun c hc => ?_, fun c u hc => ?_, fun c u hc => ?_⟩
 ·show (HA.t.set b z).get c = _
  rw [Tr.get_set, Tr.get_set]; split
  ·rfl
  ·rename_i e; rw [yaa e] at hc; exact h.same c hc
 ·show (HA.t.set b z).get c = _ /\ _
  split at hc
  ·cases hc
  ·rename_i e
   obtain ⟨g1, g2, g3⟩ := h.ext c u hc
   exact ⟨by grind [Tr.get_set], by grind [Tr.get_set], g3⟩
 ·rw [Tr.get_set] at hc
  split at hc
  ·rename_i e; rw [e]; exact g3
  ·exact h.lt _ _ hc
theorem zr2 {H : zaf} {l : Nat} {r : zj1} (hl : 256 <= l) (h : H.t.get l = some (.loop r)) : zdr H l = some r := by
 unfold zdr; rw [h, zad, Nat.ble_eq_true_of_le hl]; rfl
theorem zzgp {base kf n : Nat} {st : TSt} {tm : Tm} {i : Nat} {pl ps : List Nat} {vals args : List zab} {X : Xt} {HA : zaf} {t : Tr zav} (ho : Ov base t X HA) (hk : st.tm.k = kf) (hkA : tm.k = kf)
  (ht : ∀ i v, st.tm.get i = some v -> tm.get i = some v) (hv : zzjo pl st = some vals) (hok : zfh (fun p => Nat.blt p st.tm.k && Nat.blt p n && !zc6 p pl) ps = true) (h1 : psOk ps = true) (hl : args.length = ps.length) :
  ∃ tm', ze1 n ps args tm = some tm' /\ zdc base X kf (fun i => i) X (ztv kf ⟨i, zfp pl ps, []⟩ (vals ++ args)) tm' HA t := by
 have old : ∀ (pl : List Nat) (vals rest : List zab) j v, zel (fun i => st.tm.get i) pl = some vals -> (zyx (pl ++ ps) (vals ++ rest)).get j = some v -> (j ∈ pl /\ tm.get j = some v) \/ (zyx ps rest).get j = some v := by
  intro pl; induction pl with
  | nil => intro vals rest j v h hj; cases h; simp_all
  | cons a pl ih =>
   intro vals rest j v h hj; rw [zcq, zac] at h; obtain ⟨u, g1, h⟩ := h
   rw [zac] at h; obtain ⟨us, g2, h⟩ := h
   cases h; have hj : ((zyx (pl ++ ps) (us ++ rest)).set a u).get j = some v := hj
   grind [Tr.get_set]
 cases ps with
 | nil =>
  cases args with
  | cons _ _ => cases hl
  | nil =>
   refine ⟨tm, rfl, ho, XLe.refl _, rfl, hkA, fun j v hj => ?_, fun j p h => (by cases h), fun d l h => ?_, fun d _ l _ h => ?_⟩
   ·have hj := (Tm.get_kv hj).2
    have hj : (zyx (zfp pl []) (vals ++ [])).get j = some v := hj
    rw [zca] at hj; rcases old pl vals [] j v hv hj with ⟨_, h⟩ | h
    all_goals grind [zyx, Tr.get_leaf]
   ·rw [show (ztv kf ⟨i, zfp pl [], []⟩ (vals ++ [])).lo = .leaf from rfl, Tr.get_leaf] at h; cases h
   omega
 | cons p ps =>
  cases ps with
  | cons q ps =>
   cases ps with
   | cons _ _ => cases h1
   | nil =>
   match args, hl with
   | [a, b], _ =>
    have hpq : p ≠ q := fun e => by subst e; simp [psOk] at h1
    have hp : (bif (Nat.blt p st.tm.k && Nat.blt p n && !zc6 p pl) then (bif (Nat.blt q st.tm.k && Nat.blt q n && !zc6 q pl) then true else false) else false) = true := hok
    cases hx : (Nat.blt p st.tm.k && Nat.blt p n && !zc6 p pl) with
    | false => grind
    | true =>
    cases hy : (Nat.blt q st.tm.k && Nat.blt q n && !zc6 q pl) with
    | false => grind
    | true =>
     simp only [ybb, ycp] at hx hy; obtain ⟨⟨x1, x2⟩, x3⟩ := hx
     obtain ⟨⟨y1, y2⟩, y3⟩ := hy
     have x1 := zdk.1 x1
     have x2 := zdk.1 x2
     have y1 := zdk.1 y1
     have y2 := zdk.1 y2
     refine ⟨putA n (putA n tm (some p) a) (some q) b, rfl, ho, XLe.refl _, rfl, by grind [zpx], fun j v hj => ?_, fun j p h => (by cases h), fun d l h => ?_, fun d _ l _ h => ?_⟩
     ·have hj := (Tm.get_kv hj).2
      have hj : (zyx (zfp pl [p, q]) (vals ++ [a, b])).get j = some v := hj
      rw [zca] at hj; rw [zby, zby]; rcases old pl vals [a, b] j v hv hj with ⟨hm, h⟩ | h
      all_goals grind [zfy, zyx, Tr.get_set, Tr.get_leaf, zpx]
     ·rw [show (ztv kf ⟨i, zfp pl [p, q], []⟩ (vals ++ [a, b])).lo = .leaf from rfl, Tr.get_leaf] at h; cases h
     omega
  | nil =>
   cases args with
   | nil => cases hl
   | cons a args =>
    cases args with
    | cons _ _ => simp at hl
    | nil =>
     have hp : (bif (Nat.blt p st.tm.k && Nat.blt p n && !zc6 p pl) then zfh (fun p => Nat.blt p st.tm.k && Nat.blt p n && !zc6 p pl) [] else false) = true := hok
     cases hx : (Nat.blt p st.tm.k && Nat.blt p n && !zc6 p pl) with
     | false => grind
     | true =>
      simp only [ybb, ycp] at hx; obtain ⟨⟨x1, x2⟩, x3⟩ := hx
      have x1 := zdk.1 x1
      have x2 := zdk.1 x2
      refine ⟨putA n tm (some p) a, rfl, ho, XLe.refl _, rfl, by grind [zpx], fun j v hj => ?_, fun j p h => (by cases h), fun d l h => ?_, fun d _ l _ h => ?_⟩
      ·have hj := (Tm.get_kv hj).2
       have hj : (zyx (zfp pl [p]) (vals ++ [a])).get j = some v := hj
       rw [zca] at hj; rw [zby]; rcases old pl vals [a] j v hv hj with ⟨hm, h⟩ | h
       all_goals grind [zfy, zyx, Tr.get_set, Tr.get_leaf]
      ·rw [show (ztv kf ⟨i, zfp pl [p], []⟩ (vals ++ [a])).lo = .leaf from rfl, Tr.get_leaf] at h; cases h
      omega
theorem zzc {c : zbb} (l : List (Nat × Array Oper)) : zcs (asA c l) = zcs c := by
 induction l with
 | nil => rfl
 | cons x l ih => exact ih
theorem z2a {C : Ctx} {φ : Ora} {fn n : Nat} {c : zbb} {κ : Kt} (l : List (Nat × Array Oper)) : zde C φ fn n (asA c l) κ = zde C φ fn n c κ := by
 induction l with
 | nil => rfl
 | cons x l ih => exact ih
theorem zza1 (hW : zhc C A E W) (hE : E = noP) (hY : zx3 C A W) {f : Nat} {κ : KtT} {m : Kt} (hκ : ∀ X0, SKt C W J X0 kf E Q κ m) {i : Nat} {pl : List Nat} {fo : Operand} {ps : Array Nat} {aq : List (Nat × Array Oper)} {c : zbb}
  (hone : ∃ c0, A.get f = some c0 /\ zns c0 = some ⟨i, pl, fo, ps, aq, c⟩) (hJ : ∀ vals t Q, J i vals t Q -> zze4 C.base kf E ⟨⟨i, zfp pl ps.toList, []⟩, zzip C (fnV C A) f n ⟨i, pl, fo, ps, aq, c⟩⟩ vals t Q) :
  SK C W J X0 kf E Q (zza2 C n κ i pl fo ps.toList aq c) (ziw C (fnV C A) f n m fo ps.toList (asC aq) (zck c)) := by
 subst hE; intro st tm HA t X ν hst h; unfold zza2 at h; rw [zgt, zbn] at h; obtain ⟨hok, vals, hv, h⟩ := h
 rw [zbn] at h; obtain ⟨fv, hf, h256, h⟩ := h
 unfold zza3 at hok; simp only [ybb] at hok; obtain ⟨⟨⟨hok1, hok2⟩, hok3⟩, hok4⟩ := hok
 have hok4 : zcs c = [] := by
  grind
 have ho := hst.ov
 have hbase := ho.base
 generalize hr : (⟨.ready, none, f, n, tm, ps.toList, asC aq, zck c, HA.next⟩ : zj1) = r at *
 have htn : t.get (HA.next + 1) = none := by
  cases hx : t.get (HA.next + 1) with
  | none => rfl
  | some y => exact absurd (ho.lt _ _ hx) (by omega)
 have hyield : ∀ args t1 Q1, args.length = zbf ps.toList -> t1.get (HA.next + 1) = some (.loop r) -> J i (vals ++ args) (t1.del (HA.next + 1)) (fun v t2 => t2.get (HA.next + 1) = none -> ∃ b, v = .bool b /\ Q1 v (t2.set (HA.next + 1) (.loop (zlf b r)))) -> W (yo + (HA.next + 1)) args t1 Q1 := by
  intro args t1 Q1 hla ht1 hj; refine hY _ _ _ _ fun X1 HA1 ho1 => ?_
  rw [z0t, zzdh]; show Res C.base X1 noP Q1 (zrs C A (fnV C A) (HA.next + 1) args HA1)
  have hx1 := ho1.notX ht1
  have hov := ho1.under ht1 (.loop (z3k r))
  obtain ⟨tm', hs1, hs2⟩ := zzgp (n := n) (i := i) hov hst.k hst.kA hst.tms hv hok1 hok2 (by rw [hla, za1])
  obtain ⟨v, t2, HA2, X2, e1, e2, e3, e4⟩ := zfg.1 (hJ _ _ _ hj _ _ _ _ _ hs2)
  have hb2 : X2 (HA.next + 1) = some (.loop (z3k r)) := e3 _ _ (by unfold onX; rw [yab rfl])
  obtain ⟨b, e4, e5⟩ := e4 (e2.ext _ _ hb2).2.1
  subst e4; obtain ⟨c0, hc0, hc1⟩ := hone
  refine zfg.2 ⟨.bool b, _, _, _, zgh.2 ⟨r, tm', c0, ⟨i, pl, fo, ps, aq, c⟩, (⟨.bool b, false⟩, HA2), z3k r, b, zr2 (by omega) (by rw [ho1.up ht1]), ?_, ?_, hc1, ?_, ?_, zr2 (by omega) (e2.ext _ _ hb2).1, rfl, rfl⟩, e2.back hb2 _, ?_, e5⟩
  ·grind
  ·grind
  ·rw [<- hr]; exact ⟨⟨rfl, rfl, rfl, rfl, hok3, hok4⟩, ho1.lt _ _ ht1⟩
  ·grind
  ·intro c y hc
   have hne : c ≠ HA.next + 1 := fun e => by simp_all
   show (if c = HA.next + 1 then none else X2 c) = some y
   rw [yaa hne]; exact e3 _ _ (zzo hx1 _ _ hc)
 have h := h (HA.next + 1) r htn (by omega) (by rw [<- hr]) (by rw [<- hr]) hyield
 rw [zhh] at h; obtain ⟨⟨g, aq⟩, hra, hw⟩ := h
 unfold zgv at hra; rw [zac] at hra; obtain ⟨⟨qf, q1, q2⟩, hq, hra⟩ := hra
 cases qf with
 | yld l => cases hra
 | func g' =>
  simp only [zae, ybb] at hra; obtain ⟨⟨hg, hnp⟩, hra⟩ := hra
  cases hra; have hp : C.prims.get g = none := by
   unfold npC at hnp
   cases hx : C.prims.get g with
   | none => rfl
   | some u => rw [hx] at hnp; cases hnp
  have hXd : X HA.next = none := ho.nextX
  have ho1 : Ov C.base t (onX X HA.next (.deferred (some []))) (newBlk HA (.deferred (some []))) := by
   refine ⟨Nat.le_succ_of_le ho.base, fun b hb => ?_, fun b y hb => ?_, fun b y hb => Nat.lt_succ_of_lt (ho.lt _ _ hb)⟩
   ·unfold onX at hb
    split at hb
    ·cases hb
    ·rename_i e
     show (HA.t.set HA.next _).get b = _
     rw [Tr.get_set, yaa e]; exact ho.same b hb
   ·unfold onX at hb
    show (HA.t.set HA.next _).get b = _ /\ _ /\ b < HA.next + 1
    split at hb
    ·rename_i e; cases hb; subst e; exact ⟨by rw [Tr.get_set, yab rfl], ho.nextT, Nat.lt_succ_self _⟩
    ·rename_i e
     obtain ⟨g1, g2, g3⟩ := ho.ext b y hb
     grind [Tr.get_set]
  have ho2 := ho1.newBlk (.loop r)
  obtain ⟨v, t', HA2, X2, e1, e2, e3, e4⟩ := zfg.1 (hW.fn _ _ _ _ hg hw _ _ ho2)
  rw [zl4 (zzk0 hg).1, hp] at e1
  have e1 : fnV C A (.func g) (zfp q1 (.func (.yld (HA.next + 1)) [] [] :: q2)) (newBlk (newBlk HA (.deferred (some []))) (.loop r)) = some (⟨v, false⟩, HA2) := e1
  have goal : ∀ r' (κ' : KT) (m' : Tm -> zaf -> zbt), t'.get (HA.next + 1) = some (.loop r') -> (!Nat.beq (LoopState.tag r'.state) 1) = true -> (∀ tm H, zos m r'.pending tm H = m' tm H) -> (∀ X0, SK C W J X0 kf noP Q κ' m') -> wpT C.base W J (κ' st) (t'.del (HA.next + 1)) Q →
    Res C.base X0 noP Q (ziw C (fnV C A) f n m fo ps.toList (asC aq) (zck c) tm HA) := by
   intro r' κ' m' k1 k2 k3 k4 k5; have ho3 := e2.under k1 (.loop ⟨.exhausted, r'.pending, r'.fn, r'.n, r'.tm, r'.params, r'.assign, r'.body, r'.defers⟩)
   have hx2 := e2.notX k1
   have hXX : XLe X (onX X2 (HA.next + 1) (.loop ⟨.exhausted, r'.pending, r'.fn, r'.n, r'.tm, r'.params, r'.assign, r'.body, r'.defers⟩)) := ((zzo hXd).trans e3).trans (zzo hx2)
   have hd3 : (onX X2 (HA.next + 1) (.loop ⟨.exhausted, r'.pending, r'.fn, r'.n, r'.tm, r'.params, r'.assign, r'.body, r'.defers⟩)) HA.next = some (.deferred (some [])) := by
    refine (zzo hx2) _ _ (e3 _ _ ?_)
    unfold onX; rw [yab rfl]
   have hX0d : X0 HA.next = none := by
    cases hx : X0 HA.next with
    | none => rfl
    | some y => have := hst.le _ _ hx; simp_all
   have hl := hst.later ho3 hXX
   have hl' : zdc C.base (onX X0 HA.next (.deferred (some []))) kf ν (onX X2 (HA.next + 1) (.loop ⟨.exhausted, r'.pending, r'.fn, r'.n, r'.tm, r'.params, r'.assign, r'.body, r'.defers⟩)) st tm (endLoop HA2 (HA.next + 1) r') (t'.del (HA.next + 1)) := by
    refine ⟨hl.ov, ?_, hl.k, hl.kA, hl.tms, hl.ads, fun d l hd => ?_, hl.inj⟩
    ·intro b y hb
     unfold onX at hb; split at hb
     ·simp_all
     ·exact hl.le _ _ hb
    ·obtain ⟨g1, g2, g3⟩ := hl.lo d l hd
     grind [onX]
   obtain ⟨w, t4, HA4, X4, f1, f2, f3, f4⟩ := zfg.1 (k4 _ _ _ _ _ _ _ hl' k5)
   have hd4 : X4 HA.next = some (.deferred (some [])) := f3 _ _ (by unfold onX; rw [yab rfl])
   refine zfg.2 ⟨w, t4, _, _, ?_, f2.setX hd4 (.deferred none), ?_, f4⟩
   ·unfold ziw
    rw [za9 (zrz hst).1 hf, zad, hq, zad]
    show (zaj (za4 (C.prims.get g)) _) = _
    rw [hp]; show (ob (fnV C A (.func g) _ (newBlk (newBlk HA (.deferred (some []))) (.loop ⟨.ready, none, f, n, tm, ps.toList, asC aq, zck c, HA.next⟩))) _) = _
    rw [hr, e1, zad]; show (ob (zdr HA2 (HA.next + 1)) _) = _
    rw [zr2 (by omega) (e2.up k1), zad, k2]
    show (ob (zos m r'.pending tm _) _) = _
    rw [k3]; show (ob (m' tm (endLoop HA2 (HA.next + 1) r')) _) = _
    rw [f1, zad]; show (ob (zf4 HA4 HA.next) _) = _
    have : zf4 HA4 HA.next = some (some []) := by
     unfold zf4; rw [(f2.ext _ _ hd4).1, zad, Nat.ble_eq_true_of_le (by omega : 256 <= HA.next)]
     rfl
    simp only [this, zad]; rfl
   ·intro b y hb
    have hne : b ≠ HA.next := fun e => by simp_all
    show (if b = HA.next then _ else X4 b) = some y
    rw [yaa hne]; exact f3 _ _ (zzo hX0d _ _ hb)
  rcases e4 with ⟨k1, k2⟩ | ⟨k1, k2⟩
  ·exact goal r κ.norm m.norm k1 (by rw [<- hr]; rfl) (fun _ _ => by rw [<- hr]; rfl) (fun X0 => (hκ X0).norm) k2
  ·exact goal _ κ.ret m.ret k1 (by rw [<- hr]; rfl) (fun _ _ => by rw [<- hr]; rfl) (fun X0 => (hκ X0).ret) k2
def ROk (A : Tr zbb) (E : zbo) (f : Nat) (c : zbb) : Prop := ∀ q ∈ zcs c, E = noP /\ ∃ c0, A.get f = some c0 /\ zns c0 = some q
theorem ROk.l {a b : List z3q} {P : z3q -> Prop} (h : ∀ q ∈ zfp a b, P q) : (∀ q ∈ a, P q) /\ ∀ q ∈ b, P q := by
 grind [zca]
theorem zk2 (hW : zhc C A E W) (hY : zx3 C A W) {la : List Nat} {f : Nat} : ∀ (c : zbb) (κ : KtT) (m : Kt), ROk A E f c -> (∀ X0, SKt C W J X0 kf E Q κ m) -> JOk C.base kf E J (zde C (fnV C A) f n c m) -> ∀ X0, SK C W J X0 kf E Q (ztr C la f n c κ) (den C (fnV C A) f n c m) := by
 intro c; induction c with
 | skip => intro κ m _ hκ _ X0; exact (hκ X0).norm
 | region id ops d => intro κ m _ hκ _ X0; exact z6e hW (hκ X0).norm
 | seq a b iha ihb =>
  intro κ m hR hκ hJ; exact iha ⟨ztr C la f n b κ, κ.exit, κ.ret⟩ ⟨den C (fnV C A) f n b m, m.exit, m.ret⟩ (ROk.l hR).1 (fun X0 => ⟨ihb κ m (ROk.l hR).2 hκ (fun d hd => hJ d (ycf _ hd)) X0, (hκ X0).exit, (hκ X0).ret⟩) fun d hd => hJ d (ydc _ hd)
 | cond x a b iha ihb =>
  intro κ m hR hκ hJ X0 st tm HA t X ν hst h; have ha := iha κ m (ROk.l hR).1 hκ (fun d hd => hJ d (ydc _ hd)) X0
  have hb := ihb κ m (ROk.l hR).2 hκ (fun d hd => hJ d (ycf _ hd)) X0
  have h : wpT C.base W J (obT (ob (ev x (.now st.tm)) zab.asBool) fun b' => bif zzj1 x st.lit then Bool.rec (motive := fun _ => T) (ztr C la f n b κ st) (ztr C la f n a κ st) b' else .ite b' (ztr C la f n a κ st) (ztr C la f n b κ st)) t Q := h
  rw [zbn] at h; obtain ⟨w, h1, h2⟩ := h
  rw [zac] at h1; obtain ⟨v, h3, h4⟩ := h1
  show Res C.base X0 E Q (ob (ob (ev x (.now tm)) zab.asBool) fun t => Bool.rec (motive := fun _ => zbt) (den C (fnV C A) f n b m tm HA) (den C (fnV C A) f n a m tm HA) t)
  refine Res.ob (a := w) (by rw [za9 (zrz hst).1 h3]; exact h4) ?_
  have h2 : if w = true then wpT C.base W J (ztr C la f n a κ st) t Q else wpT C.base W J (ztr C la f n b κ st) t Q := by
   rw [zay] at h2; split at h2
   ·cases w <;> exact h2
   ·exact h2
  cases w with
  | true => exact ha _ _ _ _ _ _ hst h2
  | false => exact hb _ _ _ _ _ _ hst h2
 | block id c ih =>
  intro κ m hR hκ hJ; refine ih ⟨κ.norm, fun i st => Bool.rec (motive := fun _ => T) (κ.exit i st) (κ.norm st) (Nat.beq id i), κ.ret⟩ ⟨m.norm, fun i tm H => Bool.rec (motive := fun _ => zbt) (m.exit i tm H) (m.norm tm H) (Nat.beq id i), m.ret⟩ hR (fun X0 => ⟨(hκ X0).norm, fun i => ?_, (hκ X0).ret⟩) hJ
  intro st tm HA t X ν hst h; have h : wpT C.base W J (Bool.rec (motive := fun _ => T) (κ.exit i st) (κ.norm st) (Nat.beq id i)) t Q := h
  show Res C.base X0 E Q (Bool.rec (motive := fun _ => zbt) (m.exit i tm HA) (m.norm tm HA) (Nat.beq id i))
  cases hb : Nat.beq id i with
  | true => rw [hb] at h; exact (hκ X0).norm _ _ _ _ _ _ hst h
  | false => rw [hb] at h; exact (hκ X0).exit i _ _ _ _ _ _ hst h
 | loop p c ih => intro κ m _ hκ hJ X0; exact z2s hJ yby
 | exit id => intro κ m _ hκ _ X0; exact (hκ X0).exit id
 | ret => intro κ m _ hκ _ X0; exact (hκ X0).ret
 | cut p c ih => intro κ m _ hκ hJ X0; exact z2s hJ yby
 | range i pl fo ps aq c ih => intro κ m hR hκ hJ X0; exact zza1 hW (hR _ yby).1 hY hκ (hR _ yby).2 fun vals t Q h => hJ _ yby vals t Q h
def PtOk (C : Ctx) (E : zbo) (W J : zd3) (kf : Nat) (l : List PtT) (d : PtD) : Prop := ∃ q ∈ l, q.p = d.p /\ ∀ vals t Q, wpT C.base W J (q.tree vals) t Q -> zze4 C.base kf E d vals t Q
def keptOk (kf : Nat) : zbb -> Bool
 | .seq a b => keptOk kf a && keptOk kf b
 | .cond _ a b => keptOk kf a && keptOk kf b
 | .block _ c => keptOk kf c
 | .loop p c => p.kept.all (fun i => Nat.blt i kf) && keptOk kf c
 | .cut p c => p.kept.all (fun i => Nat.blt i kf) && keptOk kf c
 | .range _ _ _ _ _ c => keptOk kf c
 | _ => true
theorem zzba (hW : zhc C A E W) (hY : zx3 C A W) {la : List Nat} {f : Nat} : ∀ (c : zbb) (κ : KtT) (m : Kt), ROk A E f c -> keptOk kf c = true -> (∀ X0 Q, SKt C W J X0 kf E Q κ m) -> JOk C.base kf E J (zde C (fnV C A) f n c m) -> ∀ d ∈ zde C (fnV C A) f n c m, PtOk C E W J kf (zla C la f n kf c κ) d := by
 have up : ∀ {l l' : List PtT} {d : PtD}, PtOk C E W J kf l d -> (∀ q ∈ l, q ∈ l') -> PtOk C E W J kf l' d := fun ⟨q, h1, h2⟩ hl => ⟨q, hl q h1, h2⟩
 intro c; induction c with
 | skip => intro κ m _ _ _ _ d hd; cases hd
 | region id ops dr => intro κ m _ _ _ _ d hd; cases hd
 | seq a b iha ihb =>
  intro κ m hR hk hκ hJ d hd; unfold keptOk at hk; rw [ybb] at hk; have e : zla C la f n kf (.seq a b) κ = zla C la f n kf a ⟨ztr C la f n b κ, κ.exit, κ.ret⟩ ++ zla C la f n kf b κ := zca _ _
  rw [e]; have hJa : JOk C.base kf E J (zde C (fnV C A) f n a ⟨den C (fnV C A) f n b m, m.exit, m.ret⟩) := fun d hd => hJ d (ydc _ hd)
  have hJb : JOk C.base kf E J (zde C (fnV C A) f n b m) := fun d hd => hJ d (ycf _ hd)
  rcases yaf.1 hd with hd | hd
  ·exact up (iha ⟨ztr C la f n b κ, κ.exit, κ.ret⟩ ⟨den C (fnV C A) f n b m, m.exit, m.ret⟩ (ROk.l hR).1 hk.1 (fun X0 Q => ⟨zk2 hW hY b κ m (ROk.l hR).2 (fun X0 => hκ X0 Q) hJb X0, (hκ X0 Q).exit, (hκ X0 Q).ret⟩) hJa d hd) fun q hq => ydc _ hq
  ·exact up (ihb _ _ (ROk.l hR).2 hk.2 hκ hJb d hd) fun q hq => ycf _ hq
 | cond x a b iha ihb =>
  intro κ m hR hk hκ hJ d hd; unfold keptOk at hk; rw [ybb] at hk; have e : zla C la f n kf (.cond x a b) κ = zla C la f n kf a κ ++ zla C la f n kf b κ := zca _ _
  rw [e]; rcases yaf.1 hd with hd | hd
  ·exact up (iha _ _ (ROk.l hR).1 hk.1 hκ (fun d hd => hJ d (ydc _ hd)) d hd) fun q hq => ydc _ hq
  ·exact up (ihb _ _ (ROk.l hR).2 hk.2 hκ (fun d hd => hJ d (ycf _ hd)) d hd) fun q hq => ycf _ hq
 | block id c ih =>
  intro κ m hR hk hκ hJ d hd; refine ih ⟨κ.norm, fun i st => Bool.rec (motive := fun _ => T) (κ.exit i st) (κ.norm st) (Nat.beq id i), κ.ret⟩ ⟨m.norm, fun i tm H => Bool.rec (motive := fun _ => zbt) (m.exit i tm H) (m.norm tm H) (Nat.beq id i), m.ret⟩ hR hk (fun X0 Q => ⟨(hκ X0 Q).norm, fun i => ?_, (hκ X0 Q).ret⟩) hJ d hd
  intro st tm HA t X ν hst h; have h : wpT C.base W J (Bool.rec (motive := fun _ => T) (κ.exit i st) (κ.norm st) (Nat.beq id i)) t Q := h
  show Res C.base X0 E Q (Bool.rec (motive := fun _ => zbt) (m.exit i tm HA) (m.norm tm HA) (Nat.beq id i))
  cases hb : Nat.beq id i with
  | true => rw [hb] at h; exact (hκ X0 Q).norm _ _ _ _ _ _ hst h
  | false => rw [hb] at h; exact (hκ X0 Q).exit i _ _ _ _ _ _ hst h
 | loop p c ih =>
  intro κ m hR hk hκ hJ d hd; unfold keptOk at hk; rw [ybb, ycb] at hk; have hJc : JOk C.base kf E J (zde C (fnV C A) f n c ⟨den C (fnV C A) f n (.loop p c) m, m.exit, m.ret⟩) := fun d hd => hJ d (ybr _ hd)
  have hκ' : ∀ X0 Q, SKt C W J X0 kf E Q ⟨zt0 p, κ.exit, κ.ret⟩ ⟨den C (fnV C A) f n (.loop p c) m, m.exit, m.ret⟩ := fun X0 Q => ⟨z2s hJ yby, (hκ X0 Q).exit, (hκ X0 Q).ret⟩
  rcases ybs.1 hd with rfl | hd
  ·refine ⟨_, yby, rfl, fun vals t Q hw X0 X HA tm ν hst => ?_⟩
   show Res C.base X0 E Q (den C (fnV C A) f n (.loop p c) m tm HA)
   rw [zzia]; exact zk2 hW hY c _ _ hR (fun X0 => hκ' X0 Q) hJc X0 _ _ _ _ _ _ (hst.keep fun i hi => zdk.1 (hk.1 i hi)) hw
  ·exact up (ih ⟨zt0 p, κ.exit, κ.ret⟩ ⟨den C (fnV C A) f n (.loop p c) m, m.exit, m.ret⟩ hR hk.2 hκ' hJc d hd) fun q hq => ybr _ hq
 | exit id => intro κ m _ _ _ _ d hd; cases hd
 | ret => intro κ m _ _ _ _ d hd; cases hd
 | cut p c ih =>
  intro κ m hR hk hκ hJ d hd; unfold keptOk at hk; rw [ybb, ycb] at hk; have hJc : JOk C.base kf E J (zde C (fnV C A) f n c m) := fun d hd => hJ d (ybr _ hd)
  rcases ybs.1 hd with rfl | hd
  ·refine ⟨_, yby, rfl, fun vals t Q hw X0 X HA tm ν hst => ?_⟩
   exact zk2 hW hY c _ _ hR (fun X0 => hκ X0 Q) hJc X0 _ _ _ _ _ _ (hst.keep fun i hi => zdk.1 (hk.1 i hi)) hw
  ·exact up (ih _ _ hR hk.2 hκ hJc d hd) fun q hq => ybr _ hq
 | range i pl fo ps aq c ih =>
  intro κ m hR hk hκ hJ d hd; have hR' : ROk A E f c := fun q hq => hR q (ybr _ hq)
  have hJc : JOk C.base kf E J (zde C (fnV C A) f n c rdK) := fun d hd => hJ d (ybr _ hd)
  rcases ybs.1 hd with rfl | hd
  ·refine ⟨_, yby, rfl, fun vals t Q hw X0 X HA tm ν hst => ?_⟩
   exact zk2 hW hY (asA c aq) rdT rdK (fun q hq => hR' q (by rwa [zzc] at hq)) (fun _ => zzjt) (fun d hd => hJc d (by rwa [z2a] at hd)) X0 _ _ _ _ _ _ hst hw
  ·exact up (ih rdT rdK hR' hk (fun _ _ => zzjt) hJc d hd) fun q hq => ybr _ hq
end
end Go.Am
namespace Go.Am
open Go Go.RowKit
def Tr.mapT {α β : Type} (f : α -> β) (t : Tr α) : Tr β := Tr.rec (motive := fun _ => Tr β) .leaf (fun _ v _ l r => .node l (match v with | some a => some (f a) | none => none) r) t
theorem Tr.get_mapT {α β : Type} (f : α -> β) : ∀ (t : Tr α) (n : Nat), (t.mapT f).get n = (t.get n).map f := by
 intro t; induction t with
 | leaf => intro n; rfl
 | node l v r ihl ihr =>
  intro n; show (Tr.node (l.mapT f) (match v with | some a => some (f a) | none => none) (r.mapT f)).get n = _
  grind [Tr.get_node]
def za6 (F : Tr zfs) : Tr zbb := F.mapT zfs.code
def fnB (f kf : Nat) (c : zbb) : Bool := Nat.blt f yo && (keptOk kf c && (za4 (zk6 c) && (match zcs c with | [] => true | [_] => true | _ => false)))
structure zx7 (C : Ctx) (F : Tr zfs) (f : Nat) (fn : Func) (kf : Nat) (A : zfs) : Prop where
 isF : F.get f = some A
 isFn : C.fns.get f = some fn
 isK : C.ks.get f = some kf
 prim : za4 (C.prims.get f) = true
 kept : fnB f kf A.code = true
 body : za4 fn.body = false
theorem zx7.lt {C : Ctx} {F : Tr zfs} {f : Nat} {fn : Func} {kf : Nat} {A : zfs} (h : zx7 C F f fn kf A) : Nat.blt f yo = true := by
 have := h.kept; grind [fnB]
theorem zx7.keptOk {C : Ctx} {F : Tr zfs} {f : Nat} {fn : Func} {kf : Nat} {A : zfs} (h : zx7 C F f fn kf A) : keptOk kf A.code = true := by
 have := h.kept; grind [fnB]
theorem zx7.code {C : Ctx} {F : Tr zfs} {f : Nat} {fn : Func} {kf : Nat} {A : zfs} (h : zx7 C F f fn kf A) : (za6 F).get f = some A.code := by unfold za6; rw [Tr.get_mapT, h.isF]; rfl
theorem zx7.one {C : Ctx} {F : Tr zfs} {f : Nat} {fn : Func} {kf : Nat} {A : zfs} {E : zbo} (h : zx7 C F f fn kf A) (hr : E = noP \/ zcs A.code = []) : ROk (za6 F) E f A.code := by
 have := h.kept
 unfold fnB at this; simp only [ybb] at this; intro q hq; refine ⟨hr.resolve_right (fun e => by rw [e] at hq; cases hq), _, h.code, ?_⟩
 grind [zns]
theorem zx7.plain {C : Ctx} {F : Tr zfs} {f : Nat} {fn : Func} {kf : Nat} {A : zfs} (h : zx7 C F f fn kf A) : zk6 A.code = none := by
 have := h.kept
 unfold fnB at this; simp only [ybb] at this
 cases hx : zk6 A.code with
 | none => rfl
 | some u => rw [hx] at this; cases this.2.2.1
def WcE (C : Ctx) (F : Tr zfs) (E : zbo) : zd3 := fun f args t Q => ∀ X HA, Ov C.base t X HA -> Res C.base X E Q (zxv C (za6 F) f args HA)
def Wc (C : Ctx) (F : Tr zfs) : zd3 := fun f args t Q => ∀ X HA, Ov C.base t X HA -> Res C.base X noP Q (zxv C (za6 F) f args HA)
theorem Wc.mono {C : Ctx} {F : Tr zfs} {f : Nat} {args : List zab} {t : Tr zav} {Q Q' : zbo} (h : Wc C F f args t Q) (k : ∀ v t', Q v t' -> Q' v t') : Wc C F f args t Q' := fun X HA ho => (h X HA ho).mono k
theorem Tr.bound {α : Type} (t : Tr α) : ∃ n, ∀ b y, t.get b = some y -> b < n := by
 induction t with
 | leaf => simp_all [Tr.get_leaf]
 | node l v r ihl ihr =>
  obtain ⟨n, hn⟩ := ihl
  obtain ⟨m, hm⟩ := ihr
  refine ⟨2 * n + 2 * m + 3, fun b y h => ?_⟩
  grind [Tr.get_node]
def PV (C : Ctx) (F : Tr zfs) (f : Nat) (args : List zab) (t : Tr zav) (v : zab) : Prop := Wc C F f args t fun v' t' => v' = v /\ t' = t
theorem PV.unique {C : Ctx} {F : Tr zfs} {f : Nat} {args : List zab} {t : Tr zav} {v v' : zab} (h : PV C F f args t v) (h' : PV C F f args t v') : v = v' := by
 obtain ⟨n, hn⟩ := Tr.bound t
 have ho : Ov C.base t (fun _ => none) ⟨C.base + n, t⟩ := ⟨Nat.le_add_right _ _, fun _ _ => rfl, fun _ _ h => (by cases h), fun b y hb => Nat.lt_of_lt_of_le (hn b y hb) (Nat.le_add_left _ _)⟩
 obtain ⟨u, t', HA', X', h1, _, _, h2, _⟩ := zfg.1 (h _ _ ho)
 obtain ⟨u', t'', HA'', X'', h3, _, _, h4, _⟩ := zfg.1 (h' _ _ ho)
 rw [h1] at h3
 cases h3; rw [<- h2, <- h4]
def pvC (C : Ctx) (F : Tr zfs) (f : Nat) (args : List zab) (t : Tr zav) : Option zab := @dite _ (∃ v, PV C F f args t v) (Classical.propDecidable _) (fun h => some h.choose) (fun _ => none)
theorem zbg {C : Ctx} {F : Tr zfs} {f : Nat} {args : List zab} {t : Tr zav} {v : zab} : pvC C F f args t = some v ↔ PV C F f args t v := by
 unfold pvC; constructor
 ·intro h
  by_cases hx : ∃ v, PV C F f args t v
  all_goals grind
 ·intro h
  have hx : ∃ v, PV C F f args t v := ⟨v, h⟩
  rw [dif_pos hx, PV.unique hx.choose_spec h]
def Wq (C : Ctx) (F : Tr zfs) (pure : Nat -> Bool) : zd3 := fun f args t R => if (pure f && Nat.blt f yo) = true then zf8 (pvC C F f args t) fun v => R v t else if Nat.beq f pn = true then False else Wc C F f args t R
def WqE (C : Ctx) (F : Tr zfs) (pure pan : Nat -> Bool) (E : zbo) : zd3 := fun f args t R => if (pure f && Nat.blt f yo) = true then zf8 (pvC C F f args t) fun v => R v t else if Nat.beq f pn = true then ∃ v, args = [v] /\ E v t else
 if (pan f && Nat.blt f pn) = true then WcE C F E f args t R else Wc C F f args t R
theorem Wc.toE {C : Ctx} {F : Tr zfs} {E : zbo} {f : Nat} {args : List zab} {t : Tr zav} {Q : zbo} (h : Wc C F f args t Q) : WcE C F E f args t Q := fun X HA ho => (h X HA ho).mono (fun _ _ h => h) fun _ _ h => h.elim
theorem pv_wc {C : Ctx} {F : Tr zfs} {f : Nat} {args : List zab} {t : Tr zav} {R : zbo} (h : zf8 (pvC C F f args t) fun v => R v t) : Wc C F f args t R := by
 rw [zhh] at h; obtain ⟨v, h1, h2⟩ := h
 exact (zbg.1 h1).mono fun v' t' hh => by simp_all
theorem zzjv {f : Nat} (h : Nat.blt f pn = true) : Nat.beq f pn = false := Bool.eq_false_iff.2 fun e => by grind [zdk, zds]
theorem ztp {l : Nat} : Nat.blt (yo + l) yo = false /\ Nat.blt (yo + l) pn = false /\ Nat.beq (yo + l) pn = false := by
 refine ⟨Bool.eq_false_iff.2 fun e => ?_, Bool.eq_false_iff.2 fun e => ?_, Bool.eq_false_iff.2 fun e => ?_⟩
 ·have := zdk.1 e; omega
 ·have := zdk.1 e; unfold yo pn at this; omega
 ·have := zds.1 e; unfold yo pn at this; omega
theorem zzi0 {C : Ctx} {F : Tr zfs} {pure : Nat -> Bool} (hpn : pure pn = false) : zhc C (za6 F) noP (Wq C F pure) := by
 refine ⟨fun f args t R hf h X HA ho => ?_, fun l args t R h X HA ho => ?_, fun args t R h => ?_⟩
 ·unfold Wq at h
  split at h
  ·exact pv_wc h X HA ho
  ·rw [zzjv hf, yaa (by simp)] at h
   exact h X HA ho
 ·unfold Wq at h
  rw [ztp.1, yay, yaa (by simp), ztp.2.2, yaa (by simp)] at h
  exact h X HA ho
 ·unfold Wq at h
  rw [hpn, Bool.false_and, yaa (by simp), yab (zds.2 rfl)] at h
  exact h.elim
theorem zlq {C : Ctx} {F : Tr zfs} {pure pan : Nat -> Bool} {E : zbo} (hpn : pure pn = false) : zhc C (za6 F) E (WqE C F pure pan E) := by
 refine ⟨fun f args t R hf h X HA ho => ?_, fun l args t R h X HA ho => ?_, fun args t R h => ?_⟩
 ·unfold WqE at h
  split at h
  ·exact (pv_wc h).toE X HA ho
  ·rw [zzjv hf, yaa (by simp)] at h
   split at h
   ·exact h X HA ho
   ·exact h.toE X HA ho
 ·unfold WqE at h
  rw [ztp.1, yay, yaa (by simp), ztp.2.2, yaa (by simp), ztp.2.1, yay, yaa (by simp)] at h
  exact h X HA ho
 ·unfold WqE at h
  rw [hpn, Bool.false_and, yaa (by simp), yab (zds.2 rfl)] at h
  exact h
theorem z5y {C : Ctx} {F : Tr zfs} {pure : Nat -> Bool} : zx3 C (za6 F) (Wq C F pure) := by
 intro l args t Q h; unfold Wq; rw [ztp.1, yay, yaa (by simp), ztp.2.2, yaa (by simp)]
 exact h
theorem zig {C : Ctx} {F : Tr zfs} {pure pan : Nat -> Bool} {E : zbo} : zx3 C (za6 F) (WqE C F pure pan E) := by
 intro l args t Q h; unfold WqE; rw [ztp.1, yay, yaa (by simp), ztp.2.2, yaa (by simp), ztp.2.1, yay, yaa (by simp)]
 exact h
def JqE (C : Ctx) (F : Tr zfs) (E : zbo) (f : Nat) : zd3 := fun i vals t Q => ∀ fn kf A, zx7 C F f fn kf A -> ∀ d ∈ zde C (fnV C (za6 F)) f fn.ntmps A.code (zyt C fn), d.p.id = i -> zze4 C.base kf E d vals t Q
def Jq (C : Ctx) (F : Tr zfs) (f : Nat) : zd3 := fun i vals t Q => ∀ fn kf A, zx7 C F f fn kf A -> ∀ d ∈ zde C (fnV C (za6 F)) f fn.ntmps A.code (zyt C fn), d.p.id = i -> zze4 C.base kf noP d vals t Q
theorem zzk7 {C : Ctx} {F : Tr zfs} {E : zbo} {f : Nat} {fn : Func} {kf : Nat} {A : zfs} (h : zx7 C F f fn kf A) : JOk C.base kf E (JqE C F E f) (zde C (fnV C (za6 F)) f fn.ntmps A.code (zyt C fn)) :=
 fun d hd _ _ _ hJ => hJ fn kf A h d hd rfl
section
variable {W J : zd3} {t : Tr zav} {X X0 : Xt} {HA : zaf} {C : Ctx} {A : Tr zbb} {ν : Nat -> Nat} {Q E : zbo} {kf n : Nat} {st : TSt} {tm : Tm}
theorem zzma (hst : zdc C.base X0 kf ν X st tm HA t) : ∀ (l : List ResultVar) (K : List zab -> T), wpT C.base W J (resT C st l K) t Q -> ∃ vs, zfe C HA tm l = some vs /\ wpT C.base W J (K vs) t Q := by
 intro l; induction l with
 | nil => intro K h; exact ⟨[], rfl, h⟩
 | cons r l ih =>
  intro K h
  cases r with
  | tmp i =>
   have h : wpT C.base W J (obT (st.tm.get i) fun v => resT C st l fun l => K (v :: l)) t Q := h
   rw [zbn] at h; obtain ⟨v, h1, h2⟩ := h
   obtain ⟨vs, h3, h4⟩ := ih _ h2
   refine ⟨v :: vs, ?_, h4⟩
   show zel (zfw C HA tm) _ = _
   rw [zcq]; show ob (tm.get i) _ = _
   rw [hst.tms _ _ h1, zad]; have h3 : zel (zfw C HA tm) l = some vs := h3
   rw [h3]; rfl
  | cell a ty =>
   have h : wpT C.base W J (match zio a st.ad with
    | some p => obT (st.lo.get p.1) fun m => obT (C.tys.get ty) fun y => gdT (Nat.ble (p.2 + y.size) (zbf m)) (obT (zm1 C ty m p.2) fun v => resT C st l fun l => K (v :: l))
    | none => obT (st.tm.get a) fun a => .light (fun m => zao C ty ⟨0, m⟩ a) fun v => resT C st l fun l => K (v :: l)) t Q := h
   have fin : ∀ {u v : zab}, tm.get a = some u -> zao C ty HA u = some v -> wpT C.base W J (resT C st l fun l => K (v :: l)) t Q -> ∃ vs, zfe C HA tm (.cell a ty :: l) = some vs /\ wpT C.base W J (K vs) t Q := by
    intro u v h1 h2 h3; obtain ⟨vs, h4, h5⟩ := ih _ h3
    refine ⟨v :: vs, ?_, h5⟩
    show zel (zfw C HA tm) _ = _
    rw [zcq]; have e : zfw C HA tm (.cell a ty) = some v := by
     show (ob (ob (tm.get a) zab.asPtr) fun p => ob (C.tys.get ty) fun ty => ob (zax HA p.1) fun c => znx ty c.1 p.2) = some v
     grind [zao, zad]
    have h4 : zel (zfw C HA tm) l = some vs := h4
    simp_all
   split at h
   ·rename_i p hp
    simp only [zbn, zgt] at h; obtain ⟨m, h1, y, h2, h3, v, h4, h5⟩ := h
    exact fin (hst.ads _ _ hp) (z4y hst.ov hst.lo h1 h2 h3 h4) h5
   ·simp only [zbn, zls] at h
    obtain ⟨u, h1, v, h2, h3⟩ := h
    exact fin (hst.tms _ _ h1) (zub hst.ov.le h2) h3
theorem zsq {fn : Func} : SK C W J X0 kf E Q (endT C fn) (z8j C fn) := by
 intro st tm HA t X ν hst h; obtain ⟨vs, h1, h2⟩ := zzma hst _ _ h
 unfold z8j; exact Res.ob h1 ⟨_, t, HA, X, rfl, hst.ov, hst.le, h2⟩
theorem z1l {fn : Func} : SKt C W J X0 kf E Q (zzi9 C fn) (zyt C fn) := ⟨zsq, fun _ _ _ _ _ _ _ _ h => h.elim, zsq⟩
end
section
variable {C : Ctx} {F : Tr zfs} {f : Nat} {fn : Func} {kf : Nat} {A : zfs} {pure : Nat -> Bool} {t : Tr zav} {Q : zbo}
theorem zqa {E : zbo} {W : zd3} (hW : zhc C (za6 F) E W) (hY : zx3 C (za6 F) W) (h : zx7 C F f fn kf A) (hr : E = noP \/ zcs A.code = []) {args : List zab} (hl : (Nat.ble (zbf args) kf && Nat.ble (zbf args) fn.ntmps) = true) (hw : wpT C.base W (JqE C F E f) (zzfg C fn kf f A args) t Q) : WcE C F E f args t Q := by
 intro X HA ho; have hA := h.code
 obtain ⟨body, hb⟩ : ∃ b, fn.body = some b := by
  cases hx : fn.body with
  | none => have := h.body; rw [hx] at this; cases this
  | some b => simp_all
 have he : zeg C f args false = some ⟨[.code body], ⟨kf, Tr.ofList args, []⟩, ⟨f, fn.ntmps, [], .run, false, none⟩⟩ := by
  unfold zeg; rw [h.isFn, zad, hb, zad, h.isK, zad, hl]; rfl
 have hp : C.prims.get f = none := by
  cases hx : C.prims.get f with
  | none => rfl
  | some g => have := h.prim; rw [hx] at this; cases this
 rw [zl4 h.lt, hp]; show Res C.base X E Q (fnV C (za6 F) (.func f) args HA)
 rw [zzdh]; show Res C.base X E Q (z5i C (za6 F) (fnV C (za6 F)) f args HA)
 unfold z5i; refine Res.ob hA (Res.ob h.isFn (Res.ob he ?_))
 unfold zs3; rw [h.plain]; have hst : zdc C.base X kf (fun i => i) X ⟨⟨kf, Tr.ofList args, []⟩, [], .leaf, []⟩ ⟨kf, Tr.ofList args, []⟩ HA t :=
  ⟨ho, XLe.refl _, rfl, rfl, fun _ _ h => h, fun _ _ h => (by cases h), fun d l h => (by grind [Tr.get_leaf]), fun d _ l _ h => (by omega)⟩
 exact zk2 hW hY A.code (zzi9 C fn) (zyt C fn) (h.one hr) (fun _ => z1l) (zzk7 h) _ _ _ _ _ _ _ hst hw
theorem Wc_of (h : zx7 C F f fn kf A) {args : List zab} (hl : (Nat.ble (zbf args) kf && Nat.ble (zbf args) fn.ntmps) = true) (hw : wpT C.base (Wq C F pure) (Jq C F f) (zzfg C fn kf f A args) t Q) (hpn : pure pn = false := by rfl) : Wc C F f args t Q :=
 zqa (E := noP) (zzi0 hpn) z5y h (.inl rfl) hl hw
theorem JqE_of {E : zbo} {W : zd3} (hW : zhc C (za6 F) E W) (hY : zx3 C (za6 F) W) (h : zx7 C F f fn kf A) (hr : E = noP \/ zcs A.code = []) {i : Nat} {vals : List zab} {l : List T} (hp : zwl (zzme C fn kf f A) i vals = l) (hw : ∀ T ∈ l, wpT C.base W (JqE C F E f) T t Q) : JqE C F E f i vals t Q := by
 intro fn' kf' A' h' d hd hi; have e1 := h.isFn; rw [h'.isFn] at e1; cases e1
 have e2 := h.isK; rw [h'.isK] at e2; cases e2
 have e3 := h.isF; rw [h'.isF] at e3; cases e3
 obtain ⟨q, h1, h2, h3⟩ := zzba hW hY A.code (zzi9 C fn) (zyt C fn) (h.one hr) h.keptOk (fun _ _ => z1l) (zzk7 h) d hd
 refine h3 vals t Q (hw _ ?_)
 subst hp; have key : ∀ (l : List PtT), q ∈ l -> q.tree vals ∈ zwl l i vals := by
  intro l; induction l with
  | nil => simp_all
  | cons p l ih =>
   grind [zwl, zds]
 exact key _ h1
theorem zx6 {E : zbo} {W : zd3} (hW : zhc C (za6 F) E W) (hY : zx3 C (za6 F) W) (h : zx7 C F f fn kf A) (hr : E = noP \/ zcs A.code = []) {i : Nat} {vals : List zab} {T : T} (hp : zwl (zzme C fn kf f A) i vals = [T]) (hw : wpT C.base W (JqE C F E f) T t Q) : JqE C F E f i vals t Q :=
 JqE_of hW hY h hr hp fun T' hT => by rw [ydd.1 hT]; exact hw
theorem Jq_of1 (h : zx7 C F f fn kf A) {i : Nat} {vals : List zab} {T : T} (hp : zwl (zzme C fn kf f A) i vals = [T]) (hw : wpT C.base (Wq C F pure) (Jq C F f) T t Q) (hpn : pure pn = false := by rfl) : Jq C F f i vals t Q :=
 zx6 (E := noP) (zzi0 hpn) z5y h (.inl rfl) hp hw
theorem Jq.mono {i : Nat} {vals : List zab} {Q' : zbo} (h : Jq C F f i vals t Q) (k : ∀ v t', Q v t' -> Q' v t') : Jq C F f i vals t Q' :=
 fun fn kf A hf d hd hi X0 X HA tm ν hst => (h fn kf A hf d hd hi X0 X HA tm ν hst).mono k
theorem zrv {g : List zab -> zaf -> Option zab} (hg : C.prims.get f = some (zk9 g)) {args : List zab} {v : zab} (h : ∀ H, g args H = some v) (hf : Nat.blt f yo = true := by rfl) : pvC C F f args t = some v := by
 refine zbg.2 fun X HA ho => ?_
 rw [zl4 hf, hg]; exact zfg.2 ⟨v, t, HA, X, by grind [zk9, zad], ho, XLe.refl _, rfl, rfl⟩
theorem zzh {args : List zab} {v : zab} (h : Wc C F f args t fun v' t' => v' = v /\ ∀ b y, t.get b = some y -> t'.get b = some y) : pvC C F f args t = some v := by
 refine zbg.2 fun X HA ho => ?_
 obtain ⟨u, t', HA', X', h1, h2, h3, h4, h5⟩ := zfg.1 (h X HA ho)
 refine zfg.2 ⟨u, t, HA', fun b => match t.get b with | some _ => none | none => HA'.t.get b, h1, ⟨h2.base, ?_, ?_, ?_⟩, ?_, h4, rfl⟩
 ·intro b hb
  cases hg : t.get b with
  | some y => rw [h2.up (h5 b y hg)]
  | none => simp_all
 ·intro b y hb
  cases hg : t.get b with
  | some y => simp_all
  | none =>
   simp only [hg] at hb; refine ⟨hb, rfl, ?_⟩
   cases hx : X' b with
   | some z => exact (h2.ext b z hx).2.2
   | none => rw [h2.same b hx] at hb; exact h2.lt b y hb
 ·intro b y hb; exact h2.lt b y (h5 b y hb)
 ·intro b y hb
  have hn := (ho.ext b y hb).2.1
  simp only [hn]; exact (h2.ext b y (h3 b y hb)).1
end
theorem z3g {P : Program} {C : Ctx} {F : Tr zfs} {B N : Nat} {I : World -> Prop} {μ : Mu} {w : World} (hS : Sim P C B N I) (hI : I w) (hA : zii C (za6 F)) {f : Nat} (hp : C.prims.get f = none) {args : List zab} {args' : Array Value} {H : zaf} {Q : zbo} (hbase : C.base <= H.next) (hlt : ∀ b y, H.t.get b = some y -> b < H.next) (hH : zbp B N μ H w) (hl : zbw μ args args'.toList)
  (h : Wc C F f args H.t Q) (hf : Nat.blt f yo = true := by rfl) : Calls P f args' w fun e w' => ∃ v v' t' μ', e = .returned v' /\ μ.lw μ' /\ zaq μ' v v' /\ Q v t' /\ Below N w w' := by
 obtain ⟨v, t', HA', X', h1, h2, h3, h4⟩ := zfg.1 (h (fun _ => none) H ⟨hbase, fun _ _ => rfl, fun _ _ h => (by cases h), hlt⟩)
 rw [zl4 hf, hp] at h1; intro base; obtain ⟨e, w', b, ⟨v', μ', g1, g2, g3, g4, g5⟩, g6⟩ := z0q hS hI hA hH hl h1 base
 grind
end Go.Am
namespace Go.Am
open Go Go.RowKit
def piOf (i : Nat) (l : List (Nat × PI)) : Option PI := List.rec (motive := fun _ => Option PI) none (fun a _ g => bif Nat.beq i a.1 then some a.2 else g) l
def cutP (p : Option PI) (c : zbb) : zbb :=
 match p with
 | some p => .cut p c
 | none => c
def zzmp (p : Option PI) (c : zbb) : zbb :=
 match p with
 | some p => .loop p c
 | none => .loop ⟨0, [], []⟩ c
def rangeP (p : Option PI) (f : Operand) (ps : Array Nat) (a : Code) (c : zbb) : zbb :=
 match a with
 | .region id ops _ => .range (match p with | some p => p.id | none => 0) (match p with | some p => p.pl | none => []) f ps [(id, ops)] c
 | .seq (.region i o _) (.region id ops _) => .range (match p with | some p => p.id | none => 0) (match p with | some p => p.pl | none => []) f ps [(i, o), (id, ops)] c
 | _ => .skip
def z49 : Code -> Bool
 | .region _ _ d => !d
 | .seq (.region _ _ d) (.region _ _ e) => !d && !e
 | _ => false
def zmr (rt lt : List (Nat × PI)) (c : Code) : Nat -> zbb :=
 Code.rec (motive := fun _ => Nat -> zbb)
  (fun _ => .skip)
  (fun id ops d _ => cutP (piOf id rt) (.region id ops d))
  (fun _ _ ga gb k => .seq (ga k) (gb k))
  (fun c _ _ gx gy k => .cond c (gx k) (gy k))
  (fun id _ g _ => .block id (g id))
  (fun _ g k => zzmp (piOf k lt) (g k))
  (fun f ps a _ _ gb k => rangeP (piOf k lt) f ps a (gb k))
  (fun id _ => .exit id)
  (fun _ _ _ => .skip)
  (fun _ _ => .skip)
  (fun _ _ => .skip)
  (fun _ => .ret)
  (fun _ _ => .skip) c
def annot (rt lt : List (Nat × PI)) (k : Nat) (c : Code) : zbb := zmr rt lt c k
def zkq (c : Code) : Bool :=
 Code.rec (motive := fun _ => Bool) true (fun _ _ _ => true) (fun _ _ a b => bif a then b else false) (fun _ _ _ a b => bif a then b else false) (fun _ _ a => a) (fun _ a => a)
  (fun _ _ a _ _ b => bif z49 a then b else false) (fun _ => true) (fun _ _ => false) (fun _ => false) (fun _ => false) true (fun _ => false) c
theorem z7l (p : Option PI) (c : zbb) : zck (cutP p c) = zck c := by cases p <;> rfl
theorem z22 (p : Option PI) (c : zbb) : zck (zzmp p c) = .loop (zck c) := by cases p <;> rfl
theorem z23 {rt lt : List (Nat × PI)} : ∀ (c : Code) (k : Nat), zkq c = true -> zck (zmr rt lt c k) = c := by
 intro c; induction c with
 | skip => intro k _; rfl
 | region id ops d => intro k _; show zck (cutP _ _) = _; rw [z7l]; rfl
 | seq a b iha ihb =>
  intro k h; have h : (bif zkq a then zkq b else false) = true := h
  have ha : zkq a = true := by simp_all
  have hb : zkq b = true := by simp_all
  show Code.seq (zck (zmr rt lt a k)) (zck (zmr rt lt b k)) = _
  rw [iha k ha, ihb k hb]
 | cond c x y ihx ihy =>
  intro k h; have h : (bif zkq x then zkq y else false) = true := h
  have ha : zkq x = true := by simp_all
  have hb : zkq y = true := by simp_all
  show Code.cond c (zck (zmr rt lt x k)) (zck (zmr rt lt y k)) = _
  rw [ihx k ha, ihy k hb]
 | block id c ih => intro k h; show Code.block id (zck (zmr rt lt c id)) = _; rw [ih id h]
 | loop c ih => intro k h; show zck (zzmp _ (zmr rt lt c k)) = _; rw [z22, ih k h]
 | exit id => intro k _; rfl
 | ret => intro k _; rfl
 | rangeFunc f ps a b _ ihb =>
  intro k h; have h : (bif z49 a then zkq b else false) = true := h
  cases a with
  | region id ops d =>
   cases d with
   | true => cases h
   | false => show Code.rangeFunc f ps (.region id ops false) (zck (zmr rt lt b k)) = _; rw [ihb k h]
  | seq x y =>
   cases x with
   | region i o d =>
    cases y with
    | region i' o' d' =>
     cases d with
     | true => cases h
     | false =>
      cases d' with
      | true => cases h
      | false =>
       show Code.rangeFunc f ps (.seq (.region i o false) (.region i' o' false)) (zck (zmr rt lt b k)) = _
       rw [ihb k h]
    | _ => cases h
   | _ => cases h
  | _ => cases h
 | scope c _ => intro k h; cases h
 | label l => intro k h; cases h
 | goto l => intro k h; cases h
 | refuse s => intro k h; cases h
def tabF (l : List (Nat × zfs)) : Tr zfs := List.rec (motive := fun _ => Tr zfs) .leaf (fun p _ g => g.set p.1 p.2) l
theorem zzf1 {l : List (Nat × zfs)} {f : Nat} {A : zfs} (h : (tabF l).get f = some A) : (f, A) ∈ l := by
 induction l with
 | nil => grind [tabF, Tr.get_leaf]
 | cons p l ih =>
  grind [tabF, Tr.get_set]
def zzk8 (C : Ctx) (p : Nat × zfs) : Prop := ∃ fn c, C.fns.get p.1 = some fn /\ fn.body = some c /\ zck p.2.code = c
theorem bodyOk {C : Ctx} {f : Nat} {fn : Func} {c : Code} {rt lt : List (Nat × PI)} {la : List Nat} (h1 : C.fns.get f = some fn) (h2 : fn.body = some c) (h3 : zkq c = true) : zzk8 C (f, ⟨annot rt lt 0 c, la⟩) := ⟨fn, c, h1, h2, z23 c 0 h3⟩
theorem z7t {C : Ctx} {l : List (Nat × zfs)} (h : ∀ p ∈ l, zzk8 C p) : zii C (za6 (tabF l)) := by
 intro f c hc; unfold za6 at hc; rw [Tr.get_mapT] at hc
 cases hq : (tabF l).get f with
 | none => simp_all
 | some A =>
  rw [hq] at hc
  cases hc; obtain ⟨fn, b, h1, h2, h3⟩ := h _ (zzf1 hq)
  simp_all
end Go.Am
namespace Go.Am
class zb1 where
 n : Nat
def zzgy (a : List zab) (_ : zaf) : Option zab := match a with | [] => some (.bool true) | _ => none
def zqi : List Nat -> List Nat -> Bool
 | [], _ => true
 | _ :: _, [] => false
 | a :: x, b :: y => bif Nat.beq a b then zqi x y else false
def zzig (sub : List Nat) : List Nat -> Option (List Nat × List Nat)
 | [] => bif sub.isEmpty then some ([], []) else none
 | b :: l => bif zqi sub (b :: l) then some ([], zm4 (b :: l) (zbf sub)) else ob (zzig sub l) fun p => some (b :: p.1, p.2)
def pCut (a : List zab) (_ : zaf) : Option zab := match a with
 | [.str s, .str c] => zaj (Nat.blt (zbf s) 4294967281) (match zzig c s with
  | some p => some (.tup [.str p.1, .str p.2, .bool true])
  | none => some (.tup [.str s, .str [], .bool false]))
 | _ => none
end Go.Am
namespace Go.Am
open Go Go.Shelf Go.RowKit Go.Proofs
variable {P : Program} {ρ : Ren}
set_option maxHeartbeats 2000000 in
set_option maxRecDepth 100000 in
theorem z7m (L : Lays.n169 P ρ) (X : Builder.Extra P ρ) (b g cap cells : Nat) (l : List UInt8) (w : World) (c1 : w.cell? ⟨b, 1, none⟩ = some (.slice (some ⟨g, 0, none⟩) l.length cap)) (h0 : l ≠ []) (hcap : l.length <= cap)
  (hsh : w.shape? g = some (ρ.t 5, cells)) (hc : l.length <= cells) (h63 : l.length <= 9223372036854775807) (hcell : ∀ j x, l[j]? = some x -> w.cell? ((⟨g, 0, none⟩ : Addr).add j) = some (.int .u8 x.toNat)) :
  Calls P (ρ.f 169) #[.pointer (some ⟨b, 0, none⟩)] w fun e w' => e = .returned (.string ⟨l.toArray⟩) /\ w' = w.drew.freeze ⟨g, 0, none⟩ l.length := by
 have hl0 : l.length ≠ 0 := by simp_all
 have c1 : w.drew.cell? ⟨b, 1, none⟩ = some (.slice (some ⟨g, 0, none⟩) l.length cap) := c1
 have hSD : (Builtin.unsafeSliceData_ #[(ρ.t 37)] (ρ.t 127) #[.slice (some ⟨g, 0, none⟩) l.length cap]).run P w.drew = .ok (.pointer (some ⟨g, 0, none⟩)) w.drew :=
  Lib.run_unsafeSliceData_row _ _ _ _ _ _ (by omega)
 have hUS : (Builtin.unsafeString_ #[(ρ.t 127), (ρ.t 3)] (ρ.t 9) #[.pointer (some ⟨g, 0, none⟩), .int .i64 l.length]).run P w.drew = .ok (.string ⟨l.toArray⟩) (w.drew.freeze ⟨g, 0, none⟩ l.length) :=
  Lib.run_unsafeString_row w.drew (ρ.t 127) (ρ.t 3) (ρ.t 9) (ρ.t 5) L.t127 X.cellsByte g cells hsh l h0 hc h63 hcell
 have mixed := L.mixed
 have t72 := L.t72; have a72 := L.a72; have z72 := L.z72; have v72 := L.v72; have u72 := run_underlying L.t72
 have t70 := L.t70; have a70 := L.a70; have z70 := L.z70; have v70 := L.v70; have u70 := run_underlying L.t70
 have t37 := L.t37; have a37 := L.a37; have z37 := L.z37; have v37 := L.v37; have u37 := run_underlying L.t37
 have t127 := L.t127; have a127 := L.a127; have z127 := L.z127; have v127 := L.v127; have u127 := run_underlying L.t127
 have t3 := L.t3; have a3 := L.a3; have z3 := L.z3; have v3 := L.v3; have u3 := run_underlying L.t3
 have t9 := L.t9; have a9 := L.a9; have z9 := L.z9; have v9 := L.v9; have u9 := run_underlying L.t9
 have t5 := X.t5; have a5 := X.a5; have z5 := X.z5; have v5 := X.v5; have u5 := run_underlying X.t5
 go_enter L.f169, Body.n169_ntmps ρ
 go_wp2
 go_region_o
 all_goals (go_wp2; go_ret; simp_all)
end Go.Am
namespace Go.Am
open Go Go.Shelf Go.RowKit Go.Proofs
section
variable {P : Program} {ρ : Ren} {B N : Nat} {μ : Mu} {H : zaf} {w : World}
theorem zbp.scratch (hH : zbp B N μ H w) {g : Nat} (hg : N <= g) (hfree : ∀ a x j, H.t.get a = some x -> μ a = some j -> j.b ≠ g) (o' : Obj) : zbp B N μ H (World.setBlk w g o') := by
 have hsz : (World.setBlk w g o').heap.size = w.heap.size := by simp [World.setBlk]
 refine ⟨hH.base, hH.glob, hH.low, hH.next, by rw [hsz]; exact hH.size, hH.fresh, fun a x i hx hi => ?_, fun a i ha hi => by rw [hsz]; exact hH.own a i ha hi, hH.inj, hH.pnd⟩
 obtain ⟨o, h1, h2⟩ := hH.blk a x i hx hi
 grind [zgg]
def z4w : List (Nat × Nat) -> Nat -> Nat -> Bool
 | [], _, _ => false
 | p :: r, t, n => bif Nat.beq p.1 t && Nat.ble p.2 n then true else z4w r t n
theorem zzs : ∀ {Ts : List (Nat × Nat)} {t n : Nat}, z4w Ts t n = true -> ∃ p ∈ Ts, p.1 = t /\ p.2 <= n
 | [], _, _, h => by cases h
 | p :: r, t, n, h => by
  unfold z4w at h; rw [zay] at h; split at h
  ·simp_all
  ·obtain ⟨q, h1, h2⟩ := zzs h
   grind
def z4q (base : Nat) (Ts : List (Nat × Nat)) (args : List zab) (H : zaf) : Option (zab × zaf) :=
 match args with
 | [.ptr b 0] => ob (zax H b) fun c => ob (c.1.get 0) fun v => match v with
  | .nilptr => zaj (!Nat.blt b base && (match c.2.2 with | some (.ty t) => z4w Ts t c.2.1 | _ => false)) (some (.tup [], setBlk H b (.cells (c.1.set 0 (.ptr b 0)) c.2.1 c.2.2)))
  | .ptr d o => zaj (Nat.beq d b && Nat.beq o 0) (some (.tup [], H))
  | _ => none
 | _ => none
theorem zzbd {f : Nat} {Ts : List (Nat × Nat)} {base : Nat} (hbase : B <= base)
  (hfresh : ∀ p ∈ Ts, ∀ (b n : Nat) (w : World), w.cell? ⟨b, 0, none⟩ = some (.pointer none) -> w.shape? b = some (p.1, n) -> p.2 <= n -> w.frozen? ⟨b, 0, none⟩ = false -> Calls P f #[.pointer (some ⟨b, 0, none⟩)] w fun e w' => e = .returned (.tuple #[]) /\ w' = w.setCell ⟨b, 0, none⟩ (.pointer (some ⟨b, 0, none⟩)))
  (hused : ∀ (b : Nat) (w : World), w.cell? ⟨b, 0, none⟩ = some (.pointer (some ⟨b, 0, none⟩)) -> Calls P f #[.pointer (some ⟨b, 0, none⟩)] w fun e w' => e = .returned (.tuple #[]) /\ w' = w)
  (henter : ∀ (w : World) (a : Array Value), (callFunc f a).run P w = .ok (.enter f a) w) {args : List zab} {args' : Array Value} {v : zab} {H' : zaf} (hH : zbp B N μ H w) (hv : z4q base Ts args H = some (v, H')) (hl : zbw μ args args'.toList) :
  (callFunc f args').run P w = .ok (.enter f args') w /\ Calls P f args' w fun e w' => ∃ v' μ', e = .returned v' /\ μ.le μ' /\ zbp B N μ' H' w' /\ Below N w w' /\ zaq μ' v v' := by
 refine ⟨henter w args', ?_⟩
 unfold z4q at hv; split at hv
 case h_2 => cases hv
 rename_i b; rw [zbw] at hl; obtain ⟨u, r, h1, h2, h3⟩ := hl
 rw [zbw] at h3; subst h3; rw [zaq] at h2; obtain ⟨i, hi, rfl⟩ := h2
 have ha : args' = #[.pointer (some ⟨i.b, 0, none⟩)] := by apply yax.1; rw [h1]
 subst ha; rw [zac] at hv; obtain ⟨⟨c, n, lo⟩, hc, hv⟩ := hv
 rw [zac] at hv; obtain ⟨v0, h0, hv⟩ := hv
 have hx := zdo hc
 obtain ⟨o, g1, g2⟩ := hH.blk _ _ _ hx hi
 have g2' := g2
 obtain ⟨cs, E, fr, rfl, g3, g4, g5, g6⟩ := g2
 obtain ⟨hn, u, hu, hr⟩ := g5 0 v0 h0
 have g3 : n <= cs.size := g3
 have hn : 0 < n := hn
 have hcell0 : w.cell? ⟨i.b, 0, none⟩ = some u := by grind [World.cell?]
 have hundef : zaq μ (.tup []) (.tuple #[]) := by rw [zaq]; exact ⟨#[], rfl, .nil⟩
 split at hv
 ·rw [zaq] at hr
  subst hr; simp only [zae, ybb, ycp] at hv; obtain ⟨⟨hb, ht⟩, hv⟩ := hv
  cases hv; have hown : B <= b := by
   grind [zdk]
  have hNb := hH.own b i hown hi
  have hfr := g4.resolve_left (by simp_all)
  have hE : ∃ p ∈ Ts, p.1 = E /\ p.2 <= n := by
   grind [zzs]
  obtain ⟨p, hpT, hpE, hpn⟩ := hE
  subst hpE; refine (hfresh p hpT i.b cs.size w hcell0 (by unfold World.shape?; rw [g1]) (Nat.le_trans hpn g3) ?_).mono ?_
  ·grind [World.frozen?]
  ·rintro e w' ⟨rfl, rfl⟩
   rw [zmj g1]; refine ⟨_, μ, rfl, μ.le_refl, hH.upd hx hi hown ?_, zc9 hNb.1, hundef⟩
   refine ⟨_, _, fr, rfl, by simp_all, by simp_all, fun j x hj => ?_, by simp_all⟩
   grind [Tr.get_set, zaq]
 ·rename_i d o
  simp only [zae, ybb, zds] at hv; obtain ⟨⟨rfl, rfl⟩, hv⟩ := hv
  cases hv; rw [zaq] at hr; obtain ⟨i', hi', rfl⟩ := hr
  rw [hi] at hi'
  cases hi'
  refine (hused i.b w hcell0).mono ?_
  rintro e w' ⟨rfl, rfl⟩
  exact ⟨_, μ, rfl, μ.le_refl, hH, Below.refl _ _, hundef⟩
 grind
theorem zzg8 {α β : Type} {f : α -> Option β} : ∀ {l : List α} {r : List β}, zel f l = some r -> r.length = l.length /\ ∀ (t : Nat) k, r[t]? = some k -> ∃ y, l[t]? = some y /\ f y = some k := by
 intro l; induction l with
 | nil => grind [zh4]
 | cons a l ih =>
  grind [zcq, zac]
theorem zzi6 {k : Nat} (h : k < 256) : (UInt8.ofNat k).toNat = k := by
 simp_all
def zzem : zab -> Option Nat
 | .int .u8 (.ofNat k) => zaj (Nat.blt k 256) (some k)
 | _ => none
theorem z3j {v : zab} {k : Nat} (h : zzem v = some k) : v = .int .u8 (k : Int) /\ k < 256 := by
 unfold zzem at h; split at h
 all_goals grind [zae, zdk]
def zwq (base U : Nat) (args : List zab) (H : zaf) : Option (zab × zaf) :=
 match args with
 | [.ptr b 0] => ob (zax H b) fun c => ob (c.1.get 1) fun v => ob v.asSlice fun s => ob (zax H s.1) fun d => ob (d.1.many s.2.2.1 0) fun m => ob (zel zzem m) fun l =>
  zaj (!Nat.blt s.1 base && Nat.beq s.2.1 0 && Nat.blt 0 s.2.2.1 && Nat.ble s.2.2.1 s.2.2.2 && Nat.ble s.2.2.1 d.2.1 && Nat.blt s.2.2.1 1000000000 && (match d.2.2 with | some (.ty t) => Nat.beq t U | _ => false)) (some (.str l, ⟨H.next, H.t.del s.1⟩))
 | _ => none
theorem z6u {f : Nat} (L : Lays.n169 P ρ) (X : Builder.Extra P ρ) (hf : ρ.f 169 = f) {base : Nat} (hbase : B <= base)
  (henter : ∀ (w : World) (a : Array Value), (callFunc f a).run P w = .ok (.enter f a) w) {args : List zab} {args' : Array Value} {v : zab} {H' : zaf} (hH : zbp B N μ H w) (hv : zwq base (ρ.t 5) args H = some (v, H')) (hl : zbw μ args args'.toList) :
  (callFunc f args').run P w = .ok (.enter f args') w /\ Calls P f args' w fun e w' => ∃ v' μ', e = .returned v' /\ μ.le μ' /\ zbp B N μ' H' w' /\ Below N w w' /\ zaq μ' v v' := by
 refine ⟨henter w args', ?_⟩
 subst hf; unfold zwq at hv; split at hv
 case h_2 => cases hv
 rename_i b; rw [zbw] at hl; obtain ⟨u, r, h1, h2, h3⟩ := hl
 rw [zbw] at h3; subst h3; rw [zaq] at h2; obtain ⟨i, hi, rfl⟩ := h2
 have ha : args' = #[.pointer (some ⟨i.b, 0, none⟩)] := by apply yax.1; rw [h1]
 subst ha; simp only [zac, zae, ybb, ycp, zd4] at hv; obtain ⟨⟨c, n, lo⟩, hc, v0, h0, ⟨g, off, len, cap⟩, rfl, ⟨d, m, lo2⟩, hd, ml, hm, l, hlm, ⟨⟨⟨⟨⟨⟨q1, q2⟩, q3⟩, q4⟩, q5⟩, q6⟩, q7⟩, hv⟩ := hv
 cases hv; have q2 : off = 0 := zds.1 q2
 have q3 : 0 < len := zdk.1 q3
 have q4 : len <= cap := zg3.1 q4
 have q5 : len <= m := zg3.1 q5
 have q6 : len < 1000000000 := zdk.1 q6
 subst q2; have hx := zdo hc
 obtain ⟨o, g1, cs, E, fr, rfl, g3, g4, g5, g6⟩ := hH.blk _ _ _ hx hi
 obtain ⟨hn, u, hu, hr⟩ := g5 1 _ h0
 rw [zaq] at hr; rcases hr with ⟨j, cap', hj, rfl, hcap, _, _⟩ | ⟨_, hz, _⟩
 case inr => simp_all
 have hcap : cap <= cap' := hcap
 have hx2 := zdo hd
 obtain ⟨o2, k1, cs2, E2, fr2, rfl, k3, k4, k5, k6⟩ := hH.blk _ _ _ hx2 hj
 have k3 : m <= cs2.size := k3
 have hE : E2 = ρ.t 5 := by
  grind [zds]
 subst hE; have hown : B <= g := by
  grind [zdk]
 have hNb := hH.own g j hown hj
 obtain ⟨m1, m2⟩ := Tr.many_some _ _ _ _ hm
 obtain ⟨hll, hla⟩ := zzg8 hlm
 let bs : List UInt8 := l.map UInt8.ofNat
 have hbl : bs.length = len := by grind
 have hby : ∀ (t : Nat) k, l[t]? = some k -> ml[t]? = some (.int .u8 (k : Int)) /\ k < 256 := by
  grind [z3j]
 have hcell : ∀ t x, bs[t]? = some x -> w.cell? ((⟨j.b, 0, none⟩ : Addr).add t) = some (.int .u8 x.toNat) := by
  intro t x ht; simp only [bs, ybu, yar] at ht; obtain ⟨k, e1, rfl⟩ := ht
  obtain ⟨e2, e3⟩ := hby t k e1
  have hg := m2 t (by grind)
  rw [ybw, e2] at hg; obtain ⟨_, y, e4, e5⟩ := k5 t _ hg
  rw [zaq] at e5; subst e5; rw [zms]; unfold World.cell?
  simp only [k1]; simp only [ybw]; show cs2[t]? = _
  rw [e4, zzi6 e3]
 have c1 : w.cell? ⟨i.b, 1, none⟩ = some (.slice (some ⟨j.b, 0, none⟩) bs.length cap') := by
  grind [World.cell?]
 have hne : bs ≠ [] := by grind
 refine (z7m L X i.b j.b cap' cs2.size bs w c1 hne (by omega) (by unfold World.shape?; rw [k1]) (by omega) (by omega) hcell).mono ?_
 rintro e w' ⟨rfl, rfl⟩
 have hfz : ∃ o', w.drew.freeze ⟨j.b, 0, none⟩ bs.length = World.setBlk w.drew j.b o' := by
  unfold World.freeze; rw [yaa (by omega)]
  refine ⟨.cells cs2 (ρ.t 5) (if fr2.1 == fr2.2 then (0, 0 + bs.length) else (min fr2.1 0, max fr2.2 (0 + bs.length))), ?_⟩
  unfold World.setBlk; congr 1
  apply Array.ext_getElem?
  intro k; rw [Array.getElem?_modify, ycs]; have hk1 : w.drew.heap[j.b]? = some (.cells cs2 (ρ.t 5) fr2) := k1
  grind
 obtain ⟨o', ho'⟩ := hfz
 rw [ho']; have hdrop := hH.drew.drop g (fun x t e => by have := (hH.pnd _ _ _ e).1; simp_all)
 refine ⟨_, μ, rfl, μ.le_refl, hdrop.scratch hNb.1 (fun a x k hax hak e => ?_) o', (zhq).trans (zc9 hNb.1), ?_⟩
 ·have hax' : (if a = g then none else H.t.get a) = some x := by grind [Tr.get_del]
  split at hax'
  ·cases hax'
  ·rename_i hne
   by_cases hab : B <= a
   ·exact hne (hH.inj a g x _ k j hax' hx2 hak hj hab hown e)
   ·have := (hH.low a x k (by omega) hax' hak).1
    omega
 ·rw [zaq]
  refine ⟨_, rfl, ?_⟩
  unfold zb8; show bs.map UInt8.toNat = l
  simp only [bs, List.map_map]; have : ∀ k ∈ l, (UInt8.toNat ∘ UInt8.ofNat) k = k := by
   grind [List.mem_iff_getElem?, zzi6]
  rw [List.map_congr_left this, List.map_id']
end
end Go.Am
set_option maxRecDepth 100000
namespace Go.Am
open Go Go.RowKit
def zg2 (c : Nat) : List Nat -> Option Nat
 | [] => none
 | x :: r => bif Nat.beq x c then some 0 else ob (zg2 c r) fun n => some (n + 1)
def zf5 (sub : List Nat) : List Nat -> Bool
 | [] => sub.isEmpty
 | b :: l => bif zqi sub (b :: l) then true else zf5 sub l
def zjl (a : List zab) (_ : zaf) : Option zab := match a with | [.str s, .int .u8 (.ofNat c)] => zaj (Nat.blt c 256) (some (.int .i64 (match zg2 c s with | some n => .ofNat n | none => .negSucc 0))) | _ => none
def zjm (a : List zab) (_ : zaf) : Option zab := match a with | [.str s, .str c] => zaj (Nat.blt (zbf s) 4294967281) (some (.bool (zf5 c s))) | _ => none
def glob (g : Nat) (l : List zab) (t : Tr zav) : Tr zav := t.set g (.cells (Tr.ofList l) (zbf l) none)
def fin : zik -> Nat
 | .next _ => 0
 | .done v _ => match v.asBool with
  | some true => 1
  | _ => 2
 | .fail n => 100 + n
def zzad (C : Ctx) (f : Nat) (args : List zab) (H : zaf) : zik := match zeg C f args false with
 | some fr => .next ⟨fr, [], H⟩
 | none => .fail 0
theorem zw5 : ∀ (c s : List UInt8), zqi (c.map UInt8.toNat) (s.map UInt8.toNat) = c.isPrefixOf s
 | [], _ => by simp [zqi]
 | _ :: _, [] => rfl
 | a :: x, b :: y => by
  simp only [ycm, zqi, zay, zw5 x y, List.isPrefixOf]; grind [UInt8.toNat_inj, zds]
theorem zsy (c : List UInt8) : ∀ s : List UInt8, zf5 (c.map UInt8.toNat) (s.map UInt8.toNat) = Lib.contains s c
 | [] => by cases c <;> simp [zf5, Lib.contains, Lib.index]
 | b :: l => by
  have ih := zsy c l
  grind [zw5, zf5, Lib.contains, Lib.index]
theorem z5c (c : UInt8) : ∀ s : List UInt8, (match zg2 c.toNat (s.map UInt8.toNat) with | some n => Int.ofNat n | none => .negSucc 0) = Lib.indexByte s c
 | [] => rfl
 | b :: l => by
  have ih := z5c c l
  simp only [ycm, zg2, zay]; rw [Lib.indexByte]; by_cases h : b = c
  ·subst h; simp
  ·have : ¬ Nat.beq b.toNat c.toNat = true := fun e => h (UInt8.toNat_inj.1 (zds.1 e))
   rw [yaa this]; simp only [beq_iff_eq, h, if_false]
   cases hx : zg2 c.toNat (l.map UInt8.toNat) with
   | none => simp_all
   | some n =>
    grind [zad]
theorem zzkw (c : List UInt8) : ∀ s : List UInt8, match zzig (c.map UInt8.toNat) (s.map UInt8.toNat) with
  | some p => ∃ x y, p = (x.map UInt8.toNat, y.map UInt8.toNat) /\ 0 <= Lib.index s c /\ x = s.take (Lib.index s c).toNat /\ y = s.drop ((Lib.index s c).toNat + c.length)
  | none => Lib.index s c = -1
 | [] => by
  cases c with
  | nil => exact ⟨[], [], by simp, by simp [Lib.index], by simp, by simp⟩
  | cons a c => simp [zzig, Lib.index]
 | b :: l => by
  have ih := zzkw c l
  have hp := zw5 c (b :: l)
  have ge := Lib.index_ge l c
  simp only [ycm] at hp ⊢
  simp only [zzig, zay, hp]; rw [Lib.index]; by_cases h : c.isPrefixOf (b :: l) = true
  ·rw [yab h, yab h]
   grind [ze3, za1, List.map_drop]
  ·rw [yaa h, yaa h]
   cases hx : zzig (c.map UInt8.toNat) (l.map UInt8.toNat) with
   | none => simp_all
   | some p =>
    rw [hx] at ih; obtain ⟨x, y, rfl, h1, h2, h3⟩ := ih
    have e : ¬ ((Lib.index l c == -1) = true) := by grind
    rw [yaa e]; obtain ⟨n, hn⟩ : ∃ n : Nat, Lib.index l c = n := ⟨_, (Int.toNat_of_nonneg h1).symm⟩
    rw [hn] at h2 h3 ⊢
    have e2 : ((n : Int) + 1).toNat = n + 1 := by omega
    have e3 : ((n : Int)).toNat = n := by omega
    rw [e2]; rw [e3] at h2 h3; refine ⟨b :: x, y, by simp, by omega, by simp [h2], ?_⟩
    grind
def zzdn : zcy -> zcy -> Bool
 | .bool, .bool => true
 | .int k, .int j => kEq k j
 | .string, .string => true
 | .ptr a, .ptr b => Nat.beq a b
 | .slice a, .slice b => Nat.beq a b
 | .arr a c, .arr b d => Nat.beq a b && Nat.beq c d
 | .map a c, .map b d => Nat.beq a b && Nat.beq c d
 | .struct f, .struct g => decide (f = g)
 | .func, .func => true
 | .iface, .iface => true
 | .other, .other => true
 | _, _ => false
theorem zzdm {a b : zcy} (h : zzdn a b = true) : a = b := by
 cases a <;> cases b <;> simp [zzdn, zf2] at h ⊢ <;> first | exact h | exact ⟨h.1, h.2⟩
def eqTy (a b : ATy) : Bool := zzdn a.desc b.desc && Nat.beq a.size b.size && Nat.beq a.bytes b.bytes && same.sames 10 a.zero b.zero && bEq a.eqOk b.eqOk
theorem zznr {a b : ATy} (h : eqTy a b = true) : a = b := by
 obtain ⟨d, s, y, z, e⟩ := a
 obtain ⟨d', s', y', z', e'⟩ := b
 simp only [eqTy, ybb, zds, zoq, beq_iff_eq] at h; obtain ⟨⟨⟨⟨h1, h2⟩, h3⟩, h4⟩, h5⟩ := h
 rw [zzdm h1, h2, h3, zwh _ _ _ h4, h5]
def allT {α : Type} (p : Nat -> α -> Bool) : Tr α -> (Nat -> Nat) -> Bool
 | .leaf, _ => true
 | .node l v r, f => (match v with | some v => p (f 0) v | none => true) && allT p l (fun m => f (2 * m + 1)) && allT p r (fun m => f (2 * m + 2))
theorem zzod {α : Type} {p : Nat -> α -> Bool} : ∀ (t : Tr α) (f : Nat -> Nat), allT p t f = true -> ∀ (n : Nat) v, t.get n = some v -> p (f n) v = true := by
 intro t; induction t with
 | leaf => grind [Tr.get_leaf]
 | node l x r ihl ihr =>
  intro f h n v hv; simp only [allT, ybb] at h; grind [Tr.get_node]
def z6i (l : List (List UInt8)) : List Value := l.map fun b => .string ⟨b.toArray⟩
def zzfe (l : List Int) : List Value := l.map fun n => .int .i64 n
def mu0 : Mu := ⟨fun g => if g < 256 then some ⟨g, true, 0, 0, true⟩ else none, fun _ => none⟩
theorem zv7 {μ : Mu} : ∀ l : List (List UInt8), zbw μ (l.map fun b => zab.str (b.map UInt8.toNat)) (z6i l)
 | [] => .nil
 | b :: l => .cons (by grind [zaq, zb8]) (zv7 l)
theorem z5b {μ : Mu} : ∀ l : List Int, zbw μ (l.map fun n => zab.int .i64 n) (zzfe l)
 | [] => .nil
 | b :: l => .cons (by rw [zaq]) (z5b l)
theorem zs0 {μ : Mu} {g : Nat} {l : List zab} {vs : List Value} (h : zbw μ l vs) (t : TypeId) : zou μ ⟨g, true, 0, 0, true⟩ (.cells (Tr.ofList l) (zbf l) none) (.cells vs.toArray t (0, 0)) := h.rel_one rfl
theorem zznk {o : zik} (h : fin o = 1) : ∃ H, o = .done (.bool true) H := by
 cases o with
 | next s => cases h
 | fail n => grind [fin]
 | done v H =>
  grind [fin, zez]
end Go.Am
namespace Go.Am
open Go Go.RowKit
def zjy (c : Nat) : List Nat -> Nat
 | [] => 0
 | x :: r => bif Nat.beq x c then zjy c r + 1 else zjy c r
def zzm (a : List zab) (_ : zaf) : Option zab := match a with | [.str s, .str [c]] => some (.int .i64 (.ofNat (zjy c s))) | _ => none
end Go.Am
