/- Code as a function: it grows with its calls and its continuation, and comes to its limit. -/
import Derived.Test.YtfmlbimokklmgaaGreatDoorA04
set_option linter.all false
noncomputable section
namespace Go.Am
open Go Go.RowKit
def Le2 {α β γ : Type} (k k' : α -> β -> Option γ) : Prop := ∀ a b x, k a b = some x -> k' a b = some x
def OLe (φ φ' : Ora) : Prop := ∀ f a H x, φ f a H = some x -> φ' f a H = some x
structure KLe (κ κ' : Kt) : Prop where
 norm : Le2 κ.norm κ'.norm
 exit : ∀ i, Le2 (κ.exit i) (κ'.exit i)
 ret : Le2 κ.ret κ'.ret
section
variable {C : Ctx} {φ φ' : Ora} {all : Array Oper} {n : Nat} {x : Out × zaf}
theorem zzb (hφ : OLe φ φ') {r : zqb} {H : zaf} {k k' : zab -> zaf -> zbt} (hk : Le2 k k') (h : zj8 φ r H k = some x) : zj8 φ' r H k' = some x := by
 cases r <;> simp only [zj8] at h ⊢ <;> try (cases h; done)
 case val v H' => exact hk _ _ _ h
 case enter f args =>
  rw [zac] at h ⊢
  obtain ⟨p, h1, h2⟩ := h
  refine ⟨p, hφ _ _ _ _ h1, ?_⟩
  cases hp : p.1.p with
  | true => rw [hp] at h2; exact h2
  | false => rw [hp] at h2; exact hk _ _ _ h2
 case round l args =>
  rw [zac] at h ⊢
  obtain ⟨p, h1, h2⟩ := h
  rw [zae] at h2; exact ⟨p, hφ _ _ _ _ h1, zae.2 ⟨h2.1, hk _ _ _ h2.2⟩⟩
 case panic v => exact h
theorem zo6 {t : Nat} {k k' : zab -> zaf -> zbt} (hk : Le2 k k') : Le2 (fun v H => zim C t v fun v => k v H) (fun v H => zim C t v fun v => k' v H) := by
 intro v H x h; rw [zcp] at h ⊢
 exact ⟨h.1, hk _ _ _ h.2⟩
theorem zgw {κ : Tm -> zaf -> zbt} {o : Oper} {l : List Oper} {tm : Tm} {H : zaf} : ztx C φ all n κ (o :: l) tm H = ob (zbi o.guard all tm) fun w => if w = true then
   (zj8 φ ((aop o.op).f C (.now tm) H) H fun v H' => zim C o.type v fun v => ztx C φ all n κ l (putA n tm o.dst v) H') else ztx C φ all n κ l (putA n tm o.dst zbj) H := by
 show (ob (zbi o.guard all tm) fun w => Bool.rec (motive := fun _ => zbt) _ _ w) = _
 congr 1; funext w; rw [zqk]; rfl
theorem zlb (hφ : OLe φ φ') {κ κ' : Tm -> zaf -> zbt} (hκ : Le2 κ κ') : ∀ (l : List Oper), Le2 (ztx C φ all n κ l) (ztx C φ' all n κ' l) := by
 intro l; induction l with
 | nil => exact hκ
 | cons o l ih =>
  intro tm H x h; rw [zgw, zac] at h ⊢
  obtain ⟨w, h1, h2⟩ := h
  refine ⟨w, h1, ?_⟩
  split at h2
  ·rename_i e; rw [yab e]; exact zzb hφ (zo6 (k := fun v H' => ztx C φ all n κ l (putA n tm o.dst v) H') (k' := fun v H' => ztx C φ' all n κ' l (putA n tm o.dst v) H') fun v H' y hy => ih _ _ _ hy) h2
  ·rename_i e; rw [yaa e]; exact ih _ _ _ h2
variable {H : zaf} {old : Tm} {olds : List (Nat × List Nat)}
theorem zi0 {k : Tm -> zbt} {i : Nat} {l : List Nat} {tm : Tm} : zch C H all n old olds k (i :: l) tm = ob (zev all.toList i) fun o => ob (zbi o.guard all tm) fun w => if w = true then
   (ob ((zb2 o.op).f C (.mixed tm old (zda i olds) (zb9 o.op)) H) fun v => zim C o.type v fun v => zch C H all n old olds k l (putA n tm o.dst v)) else zch C H all n old olds k l (putA n tm o.dst zbj) := by
 show (ob (zev all.toList i) fun o => ob (zbi o.guard all tm) fun w => Bool.rec (motive := fun _ => zbt) _ _ w) = _
 congr 1; funext o; congr 1; funext w; rw [zqk]; rfl
theorem ziz {k k' : Tm -> zbt} (hk : ∀ tm x, k tm = some x -> k' tm = some x) : ∀ (l : List Nat) tm x, zch C H all n old olds k l tm = some x -> zch C H all n old olds k' l tm = some x := by
 intro l; induction l with
 | nil => exact hk
 | cons i l ih =>
  grind [zi0, zac, zcp]
theorem zna {tm : Tm} {k : zbt} {i : Nat} {l : List Nat} : zfn C H all old olds tm k (i :: l) = ob (zev all.toList i) fun o => ob o.dst fun d => ob (zbi o.guard all tm) fun w => if w = true then
   (ob ((zb2 o.op).f C (.mixed tm old (zda i olds) (zb9 o.op)) H) fun v => zim C o.type v fun v => ob (tm.get d) fun u => zaj (same 10 v u) (zfn C H all old olds tm k l)) else zfn C H all old olds tm k l := by
 show (ob (zev all.toList i) fun o => ob o.dst fun d => ob (zbi o.guard all tm) fun w => Bool.rec (motive := fun _ => zbt) _ _ w) = _
 congr 1; funext o; congr 1; funext d; congr 1; funext w; rw [zqk]; rfl
theorem zif {tm : Tm} {k : zbt} : ∀ (l : List Nat), zfn C H all old olds tm k l = some x -> zp9 C H all old olds tm l = true /\ k = some x := by
 intro l; induction l with
 | nil => intro h; exact ⟨rfl, h⟩
 | cons i l ih =>
  intro h; rw [zna, zac] at h; obtain ⟨o, h1, h⟩ := h
  rw [zac] at h; grind [zac, zp9, zcp, zae]
theorem ztd {tm : Tm} {k k' : zbt} (hk : k' = some x) : ∀ (l : List Nat), zfn C H all old olds tm k l = some x -> zfn C H all old olds tm k' l = some x := by
 intro l; induction l with
 | nil => intro _; exact hk
 | cons i l ih =>
  intro h; rw [zna, zac] at h ⊢
  obtain ⟨o, h1, h⟩ := h
  refine ⟨o, h1, ?_⟩
  rw [zac] at h ⊢
  grind [zac, zcp, zae]
theorem zfl {κ : Tm -> zaf -> zbt} {st : zc7} {l : List zc7} {tm : Tm} (hg : zg1 all st = false) : zcv C φ all n old olds κ (st :: l) tm H = ob (zev all.toList (hvI all st.heavy)) fun o => ob (zht C all st.heavy o tm) fun w =>
   (fun cont : zab -> zaf -> zbt => if w = true then (zj8 φ ((aop o.op).f C (.mixed tm old (zda (hvI all st.heavy) olds) (zb9 o.op)) H) H fun v H' => zim C o.type v fun v => cont v H') else cont zbj H)
   (fun v H' => zfn C H' all old olds (putA n tm o.dst v) (zch C H' all n old olds (fun tm => zcv C φ all n old olds κ l tm H') st.lights (putA n tm o.dst v)) st.again) := by
 show Bool.rec (motive := fun _ => zbt) _ _ (zg1 all st) = _
 rw [hg]; show (ob (zev all.toList (hvI all st.heavy)) fun o => ob (zht C all st.heavy o tm) fun w => (fun cont : zab -> zaf -> zbt => Bool.rec (motive := fun _ => zbt) _ _ w) _) = _
 congr 1; funext o; congr 1; funext w; cases w <;> rfl
theorem zft {κ : Tm -> zaf -> zbt} {st : zc7} {l : List zc7} {tm : Tm} (hg : zg1 all st = true) : zcv C φ all n old olds κ (st :: l) tm H = z0c C all n old olds st (zcv C φ all n old olds κ l) tm H := by
 show Bool.rec (motive := fun _ => zbt) _ _ (zg1 all st) = _
 rw [hg]; rfl
theorem zkg {st : zc7} {g : Tm -> zaf -> zbt} {tm : Tm} {x : Out × zaf} : z0c C all n old olds st g tm H = some x ↔ zmk C all = true /\ ∃ es H', z7n all old olds tm st.again = some es /\ zn8 C es H = some H' /\ zch C H' all n old olds (fun tm => g tm H') st.lights tm = some x := by
 grind [z0c, zac, zae]
theorem zk5 (hφ : OLe φ φ') {κ κ' : Tm -> zaf -> zbt} (hκ : Le2 κ κ') : ∀ (l : List zc7), Le2 (zcv C φ all n old olds κ l) (zcv C φ' all n old olds κ' l) := by
 intro l; induction l with
 | nil => exact hκ
 | cons st l ih =>
  intro tm H x h
  cases hg : zg1 all st with
  | true =>
   rw [zft hg, zkg] at h ⊢
   obtain ⟨h0, es, H', h1, h2, h3⟩ := h
   exact ⟨h0, es, H', h1, h2, ziz (fun tm x hx => ih _ _ _ hx) _ _ _ h3⟩
  | false =>
  rw [zfl hg, zac] at h ⊢
  obtain ⟨o, h1, h⟩ := h
  refine ⟨o, h1, ?_⟩
  rw [zac] at h ⊢
  obtain ⟨w, h2, h⟩ := h
  refine ⟨w, h2, ?_⟩
  have cont : ∀ v H' y, zfn C H' all old olds (putA n tm o.dst v) (zch C H' all n old olds (fun tm => zcv C φ all n old olds κ l tm H') st.lights (putA n tm o.dst v)) st.again = some y →
    zfn C H' all old olds (putA n tm o.dst v) (zch C H' all n old olds (fun tm => zcv C φ' all n old olds κ' l tm H') st.lights (putA n tm o.dst v)) st.again = some y := by
   intro v H' y hy; exact ztd (ziz (fun tm x hx => ih _ _ _ hx) _ _ _ (zif _ hy).2) _ hy
  simp only [] at h ⊢
  split at h
  ·rename_i e; rw [yab e]; exact zzb hφ (zo6 cont) h
  grind
theorem zpw (hφ : OLe φ φ') {κ κ' : Tm -> zaf -> zbt} (hκ : Le2 κ κ') {fn id : Nat} {draw : Bool} : Le2 (zo4 C φ fn n κ id all draw) (zo4 C φ' fn n κ' id all draw) := by
 intro tm H x h
 cases draw with
 | false => exact zlb hφ hκ _ _ _ _ h
 | true =>
  have h : (ob (ob (C.plans.get fn) fun t => t.get id) fun p => zaj (zkr all p) (zch C H all n tm.cut p.olds (fun tm' => zcv C φ all n tm.cut p.olds κ p.stages tm' H) p.first tm.cut)) = some x := h
  show (ob (ob (C.plans.get fn) fun t => t.get id) fun p => zaj (zkr all p) (zch C H all n tm.cut p.olds (fun tm' => zcv C φ' all n tm.cut p.olds κ' p.stages tm' H) p.first tm.cut)) = some x
  rw [zac] at h ⊢
  obtain ⟨p, h1, h⟩ := h
  refine ⟨p, h1, ?_⟩
  rw [zae] at h ⊢
  exact ⟨h.1, ziz (fun tm x hx => zk5 hφ hκ _ _ _ _ hx) _ _ _ h.2⟩
theorem zte {κ κ' : Kt} (hκ : KLe κ κ') {p : Option Code} : Le2 (zos κ p) (zos κ' p) := by
 intro tm H x h; unfold zos at h ⊢
 split at h
 ·exact hκ.norm _ _ _ h
 ·exact hκ.ret _ _ _ h
 ·cases h
theorem zru (hφ : OLe φ φ') {κ κ' : Kt} (hκ : KLe κ κ') {fn : Nat} {f : Operand} {ps : List Nat} {a b : Code} : Le2 (ziw C φ fn n κ f ps a b) (ziw C φ' fn n κ' f ps a b) := by
 intro tm H x h; unfold ziw at h ⊢
 rw [zac] at h ⊢
 obtain ⟨v, h1, h⟩ := h
 refine ⟨v, h1, ?_⟩
 rw [zac] at h ⊢
 obtain ⟨q, h2, h⟩ := h
 refine ⟨q, h2, ?_⟩
 split at h
 ·cases h
 ·rw [zae, zac] at h ⊢
  obtain ⟨h3, y, h4, h⟩ := h
  refine ⟨h3, y, hφ _ _ _ _ h4, ?_⟩
  rw [zae, zac] at h ⊢
  obtain ⟨hy, r, h5, h⟩ := h
  refine ⟨hy, r, h5, ?_⟩
  rw [zae, zac] at h ⊢
  obtain ⟨h6, z, h7, h⟩ := h
  exact ⟨h6, z, zte hκ _ _ _ h7, h⟩
end
end Go.Am
namespace Go.Am
open Go Go.RowKit
theorem zzb3 {α : Type} {f : Nat -> Option α} {r : α} (h : lim f = some r) : ∃ n, f n = some r := by
 unfold lim at h; by_cases hx : ∃ n r, f n = some r
 all_goals grind
structure zyd {α β γ : Type} (ks : Nat -> α -> β -> Option γ) (k : α -> β -> Option γ) : Prop where
 up : ∀ n, Le2 (ks n) (ks (n + 1))
 ex : ∀ a b x, k a b = some x -> ∃ n, ks n a b = some x
theorem z81 {α β γ : Type} {ks : Nat -> α -> β -> Option γ} (h : ∀ n, Le2 (ks n) (ks (n + 1))) {n m : Nat} (hnm : n <= m) : Le2 (ks n) (ks m) := by
 induction hnm with
 | refl => exact fun _ _ _ h => h
 | step _ ih => exact fun a b x hx => h _ _ _ _ (ih a b x hx)
structure z8k (φs : Nat -> Ora) (φ : Ora) : Prop where
 up : ∀ n, OLe (φs n) (φs (n + 1))
 ex : ∀ f a H x, φ f a H = some x -> ∃ n, φs n f a H = some x
theorem z8k.le {φs : Nat -> Ora} {φ : Ora} (h : z8k φs φ) {n m : Nat} (hnm : n <= m) : OLe (φs n) (φs m) := by
 induction hnm with
 | refl => exact fun _ _ _ _ h => h
 | step _ ih => exact fun f a H x hx => h.up _ _ _ _ _ (ih f a H x hx)
structure zzk5 (κs : Nat -> Kt) (κ : Kt) : Prop where
 norm : zyd (fun n => (κs n).norm) κ.norm
 exit : ∀ i, zyd (fun n => (κs n).exit i) (κ.exit i)
 ret : zyd (fun n => (κs n).ret) κ.ret
section
variable {C : Ctx} {φ φ' : Ora} {φs : Nat -> Ora} {all : Array Oper} {N fn : Nat}
theorem zzcu {g g' : Kt -> Tm -> zaf -> zbt} {κ κ' : Kt} (hκ : KLe κ κ') (hg : ∀ κ κ', KLe κ κ' -> Le2 (g κ) (g' κ')) (live : List Nat) : ∀ m, Le2 (Nat.rec (motive := fun _ => Tm -> zaf -> zbt) (fun _ _ => none) (fun _ r tm H => g ⟨r, κ.exit, κ.ret⟩ (keep live tm) H) m)
  (Nat.rec (motive := fun _ => Tm -> zaf -> zbt) (fun _ _ => none) (fun _ r tm H => g' ⟨r, κ'.exit, κ'.ret⟩ (keep live tm) H) m) := by
 intro m; induction m with
 | zero => intro a b x h; cases h
 | succ m ih => exact fun a b x h => hg ⟨_, _, _⟩ ⟨_, _, _⟩ ⟨ih, hκ.exit, hκ.ret⟩ _ _ _ h
theorem KLe.refl (κ : Kt) : KLe κ κ := ⟨fun _ _ _ h => h, fun _ _ _ _ h => h, fun _ _ _ h => h⟩
theorem z2t {g : Kt -> Tm -> zaf -> zbt} {κ : Kt} (hg : ∀ κ κ', KLe κ κ' -> Le2 (g κ) (g κ')) (live : List Nat) : ∀ m, Le2 (Nat.rec (motive := fun _ => Tm -> zaf -> zbt) (fun _ _ => none) (fun _ r tm H => g ⟨r, κ.exit, κ.ret⟩ (keep live tm) H) m)
  (Nat.rec (motive := fun _ => Tm -> zaf -> zbt) (fun _ _ => none) (fun _ r tm H => g ⟨r, κ.exit, κ.ret⟩ (keep live tm) H) (m + 1)) := by
 intro m; induction m with
 | zero => intro a b x h; cases h
 | succ m ih => exact fun a b x h => hg ⟨_, _, _⟩ ⟨_, _, _⟩ ⟨ih, (KLe.refl κ).exit, (KLe.refl κ).ret⟩ _ _ _ h
theorem zhl (hφ : OLe φ φ') : ∀ (c : zbb) (κ κ' : Kt), KLe κ κ' -> Le2 (den C φ fn N c κ) (den C φ' fn N c κ') := by
 have self : ∀ (ψ : Ora), OLe ψ ψ := fun _ _ _ _ _ h => h
 intro c; suffices h : ∀ φ φ', OLe φ φ' -> ∀ (κ κ' : Kt), KLe κ κ' -> Le2 (den C φ fn N c κ) (den C φ' fn N c κ') from h φ φ' hφ
 induction c with
 | skip => exact fun _ _ _ κ κ' hκ => hκ.norm
 | region id ops d => exact fun _ _ hφ κ κ' hκ => zpw hφ hκ.norm
 | seq a b iha ihb => exact fun _ _ hφ κ κ' hκ => iha _ _ hφ _ _ ⟨ihb _ _ hφ _ _ hκ, hκ.exit, hκ.ret⟩
 | cond c a b iha ihb =>
  intro φ φ' hφ κ κ' hκ tm H x h; have h : (ob (ob (ev c (.now tm)) zab.asBool) fun t => Bool.rec (motive := fun _ => zbt) (den C φ fn N b κ tm H) (den C φ fn N a κ tm H) t) = some x := h
  show (ob (ob (ev c (.now tm)) zab.asBool) fun t => Bool.rec (motive := fun _ => zbt) (den C φ' fn N b κ' tm H) (den C φ' fn N a κ' tm H) t) = some x
  rw [zac] at h ⊢
  obtain ⟨t, h1, h2⟩ := h
  refine ⟨t, h1, ?_⟩
  cases t with
  | true => exact iha _ _ hφ _ _ hκ _ _ _ h2
  | false => exact ihb _ _ hφ _ _ hκ _ _ _ h2
 | block id c ih =>
  intro φ φ' hφ κ κ' hκ; refine ih _ _ hφ _ _ ⟨hκ.norm, fun i tm H x h => ?_, hκ.ret⟩
  simp only [zqk] at h ⊢
  split at h
  ·rename_i e; rw [yab e]; exact hκ.norm _ _ _ h
  ·rename_i e; rw [yaa e]; exact hκ.exit _ _ _ _ h
 | loop live c ih =>
  intro φ φ' hφ κ κ' hκ tm H x h; obtain ⟨m, hm⟩ := zzb3 h
  refine (zqv fun m y hy => z2t (ih _ _ (self φ')) live.kept m _ _ _ hy).2 ⟨m, ?_⟩
  exact zzcu hκ (ih _ _ hφ) live.kept m _ _ _ hm
 | exit id => exact fun _ _ _ κ κ' hκ => hκ.exit id
 | ret => exact fun _ _ _ κ κ' hκ => hκ.ret
 | cut live c ih => exact fun _ _ hφ κ κ' hκ tm H x h => ih _ _ hφ _ _ hκ _ _ _ h
 | range i pl f ps as c ih => exact fun _ _ hφ κ κ' hκ tm H x h => zru hφ hκ _ _ _ h
theorem z4i (hφ : z8k φs φ) {r : zqb} {H : zaf} {ks : Nat -> zab -> zaf -> zbt} {k : zab -> zaf -> zbt} (hk : zyd ks k) {x : Out × zaf} (h : zj8 φ r H k = some x) : ∃ n, zj8 (φs n) r H (ks n) = some x := by
 cases r <;> simp only [zj8] at h ⊢ <;> try (cases h; done)
 case val v H' => exact hk.ex _ _ _ h
 case enter f args =>
  rw [zac] at h; obtain ⟨p, h1, h2⟩ := h
  obtain ⟨n, hn⟩ := hφ.ex _ _ _ _ h1
  cases hp : p.1.p with
  | true =>
   rw [hp] at h2; exact ⟨n, by rw [zac]; exact ⟨p, hn, by rw [hp]; exact h2⟩⟩
  | false =>
  rw [hp] at h2; obtain ⟨m, hm⟩ := hk.ex _ _ _ h2
  exact ⟨max n m, by rw [zac]; exact ⟨p, hφ.le (Nat.le_max_left n m) _ _ _ _ hn, by rw [hp]; exact z81 hk.up (Nat.le_max_right n m) _ _ _ hm⟩⟩
 case round l args =>
  rw [zac] at h; obtain ⟨p, h1, h2⟩ := h
  rw [zae] at h2; obtain ⟨n, hn⟩ := hφ.ex _ _ _ _ h1
  obtain ⟨m, hm⟩ := hk.ex _ _ _ h2.2
  exact ⟨max n m, by rw [zac]; exact ⟨p, hφ.le (Nat.le_max_left n m) _ _ _ _ hn, zae.2 ⟨h2.1, z81 hk.up (Nat.le_max_right n m) _ _ _ hm⟩⟩⟩
 case panic v => exact ⟨0, h⟩
theorem zzr {t : Nat} {ks : Nat -> zab -> zaf -> zbt} {k : zab -> zaf -> zbt} (hk : zyd ks k) : zyd (fun n v H => zim C t v fun v => ks n v H) (fun v H => zim C t v fun v => k v H) := by
 refine ⟨fun n => zo6 (hk.up n), fun v H x h => ?_⟩
 rw [zcp] at h; obtain ⟨n, hn⟩ := hk.ex _ _ _ h.2
 exact ⟨n, by grind [zcp]⟩
theorem z4r (hφ : z8k φs φ) {κs : Nat -> Tm -> zaf -> zbt} {κ : Tm -> zaf -> zbt} (hκ : zyd κs κ) : ∀ (l : List Oper), zyd (fun n => ztx C (φs n) all N (κs n) l) (ztx C φ all N κ l) := by
 intro l; refine ⟨fun n => zlb (hφ.up n) (hκ.up n) l, ?_⟩
 induction l with
 | nil => exact hκ.ex
 | cons o l ih =>
  intro tm H x h; rw [zgw, zac] at h; obtain ⟨w, h1, h2⟩ := h
  split at h2
  ·rename_i e
   obtain ⟨n, hn⟩ := z4i hφ (zzr (ks := fun n v H' => ztx C (φs n) all N (κs n) l (putA N tm o.dst v) H') (k := fun v H' => ztx C φ all N κ l (putA N tm o.dst v) H') ⟨fun n v H' y hy => zlb (hφ.up n) (hκ.up n) l _ _ _ hy, fun v H' y hy => ih _ _ _ hy⟩) h2
   grind [zgw, zac]
  grind [zgw, zac]
variable {old : Tm} {olds : List (Nat × List Nat)}
theorem zm3 {H : zaf} {ks : Nat -> Tm -> zbt} {k : Tm -> zbt} (hk : ∀ tm x, k tm = some x -> ∃ n, ks n tm = some x) : ∀ (l : List Nat) tm x, zch C H all N old olds k l tm = some x -> ∃ n, zch C H all N old olds (ks n) l tm = some x := by
 intro l; induction l with
 | nil => exact hk
 | cons i l ih =>
  intro tm x h; simp only [zi0] at h ⊢
  rw [zac] at h; obtain ⟨o, h1, h⟩ := h
  rw [zac] at h; obtain ⟨w, h3, h4⟩ := h
  split at h4
  ·rename_i e
   rw [zac] at h4; obtain ⟨v, h5, h6⟩ := h4
   simp_all [zcp]
  simp_all
theorem z1u (hφ : z8k φs φ) {κs : Nat -> Tm -> zaf -> zbt} {κ : Tm -> zaf -> zbt} (hκ : zyd κs κ) : ∀ (l : List zc7), zyd (fun n => zcv C (φs n) all N old olds (κs n) l) (zcv C φ all N old olds κ l) := by
 intro l; refine ⟨fun n => zk5 (hφ.up n) (hκ.up n) l, ?_⟩
 induction l with
 | nil => exact hκ.ex
 | cons st l ih =>
  intro tm H x h
  cases hg : zg1 all st with
  | true =>
   rw [zft hg, zkg] at h; obtain ⟨h0, es, H', h1, h2, h3⟩ := h
   obtain ⟨n, hn⟩ := zm3 (fun tm x hx => ih tm H' x hx) _ _ _ h3
   exact ⟨n, by grind [zft, zkg]⟩
  | false =>
  rw [zfl hg, zac] at h; obtain ⟨o, h1, h⟩ := h
  rw [zac] at h; obtain ⟨w, h2, h⟩ := h
  have cont : zyd (fun n v H' => zfn C H' all old olds (putA N tm o.dst v) (zch C H' all N old olds (fun tm => zcv C (φs n) all N old olds (κs n) l tm H') st.lights (putA N tm o.dst v)) st.again)
    (fun v H' => zfn C H' all old olds (putA N tm o.dst v) (zch C H' all N old olds (fun tm => zcv C φ all N old olds κ l tm H') st.lights (putA N tm o.dst v)) st.again) := by
   refine ⟨fun n v H' y hy => ztd (ziz (fun tm x hx => zk5 (hφ.up n) (hκ.up n) l _ _ _ hx) _ _ _ (zif _ hy).2) _ hy, fun v H' y hy => ?_⟩
   obtain ⟨n, hn⟩ := zm3 (fun tm x hx => ih tm H' x hx) _ _ _ (zif _ hy).2
   exact ⟨n, ztd hn _ hy⟩
  simp only [] at h; split at h
  ·rename_i e
   obtain ⟨n, hn⟩ := z4i hφ (zzr cont) h
   grind [zfl, zad]
  ·rename_i e
   obtain ⟨n, hn⟩ := cont.ex _ _ _ h
   exact ⟨n, by grind [zfl, zad]⟩
theorem z15 (hφ : z8k φs φ) {κs : Nat -> Tm -> zaf -> zbt} {κ : Tm -> zaf -> zbt} (hκ : zyd κs κ) {id : Nat} {draw : Bool} : zyd (fun n => zo4 C (φs n) fn N (κs n) id all draw) (zo4 C φ fn N κ id all draw) := by
 refine ⟨fun n => zpw (hφ.up n) (hκ.up n), fun tm H x h => ?_⟩
 cases draw with
 | false => exact (z4r hφ hκ _).ex _ _ _ h
 | true =>
  have h : (ob (ob (C.plans.get fn) fun t => t.get id) fun p => zaj (zkr all p) (zch C H all N tm.cut p.olds (fun tm' => zcv C φ all N tm.cut p.olds κ p.stages tm' H) p.first tm.cut)) = some x := h
  rw [zac] at h; obtain ⟨p, h1, h⟩ := h
  rw [zae] at h; obtain ⟨n, hn⟩ := zm3 (fun tm' x hx => (z1u hφ hκ p.stages).ex tm' H x hx) _ _ _ h.2
  refine ⟨n, ?_⟩
  show (ob (ob (C.plans.get fn) fun t => t.get id) fun p => zaj (zkr all p) (zch C H all N tm.cut p.olds (fun tm' => zcv C (φs n) all N tm.cut p.olds (κs n) p.stages tm' H) p.first tm.cut)) = some x
  grind [zad, zae]
theorem zuu (hφ : z8k φs φ) {κs : Nat -> Kt} {κ : Kt} (hκ : zzk5 κs κ) {f : Operand} {ps : List Nat} {a b : Code} : zyd (fun n => ziw C (φs n) fn N (κs n) f ps a b) (ziw C φ fn N κ f ps a b) := by
 have kle : ∀ n, KLe (κs n) (κs (n + 1)) := fun n => ⟨hκ.norm.up n, fun i => (hκ.exit i).up n, hκ.ret.up n⟩
 have klm : ∀ n m, n <= m -> KLe (κs n) (κs m) := fun n m h => ⟨z81 hκ.norm.up h, fun i => z81 (hκ.exit i).up h, z81 hκ.ret.up h⟩
 refine ⟨fun n => zru (hφ.up n) (kle n), fun tm H x h => ?_⟩
 unfold ziw at h; rw [zac] at h; obtain ⟨v, h1, h⟩ := h
 rw [zac] at h; obtain ⟨q, h2, h⟩ := h
 split at h
 ·cases h
 ·rename_i g hg
  rw [zae, zac] at h; obtain ⟨h3, y, h4, h⟩ := h
  rw [zae, zac] at h; obtain ⟨hy, r, h5, h⟩ := h
  rw [zae, zac] at h; obtain ⟨h6, z, h7, h⟩ := h
  obtain ⟨n, hn⟩ := hφ.ex _ _ _ _ h4
  have : ∃ m, zos (κs m) r.pending (tm) (endLoop y.2 (H.next + 1) r) = some z := by
   unfold zos at h7 ⊢
   split at h7
   ·exact hκ.norm.ex _ _ _ h7
   ·exact hκ.ret.ex _ _ _ h7
   grind
  obtain ⟨m, hm⟩ := this
  refine ⟨max n m, ?_⟩
  show ziw C (φs (max n m)) fn N (κs (max n m)) f ps a b tm H = some x
  unfold ziw; rw [h1, zad, h2, zad, hg]; simp only []; rw [zae, zac]; refine ⟨h3, y, hφ.le (Nat.le_max_left n m) _ _ _ _ hn, ?_⟩
  rw [zae]; refine ⟨hy, ?_⟩
  rw [h5, zad, zae, zac]; exact ⟨h6, z, zte (klm _ _ (Nat.le_max_right n m)) _ _ _ hm, h⟩
theorem zsu (hφ : z8k φs φ) : ∀ (c : zbb) (κs : Nat -> Kt) (κ : Kt), zzk5 κs κ -> zyd (fun n => den C (φs n) fn N c (κs n)) (den C φ fn N c κ) := by
 have kle : ∀ {κs : Nat -> Kt} {κ : Kt}, zzk5 κs κ -> ∀ n, KLe (κs n) (κs (n + 1)) := fun h n => ⟨h.norm.up n, fun i => (h.exit i).up n, h.ret.up n⟩
 intro c; induction c with
 | skip => exact fun κs κ hκ => hκ.norm
 | region id ops d => exact fun κs κ hκ => z15 hφ hκ.norm
 | seq a b iha ihb => exact fun κs κ hκ => iha (fun n => ⟨den C (φs n) fn N b (κs n), (κs n).exit, (κs n).ret⟩) _ ⟨ihb _ _ hκ, hκ.exit, hκ.ret⟩
 | cond c a b iha ihb =>
  intro κs κ hκ; refine ⟨fun n => zhl (hφ.up n) (.cond c a b) _ _ (kle hκ n), fun tm H x h => ?_⟩
  have h : (ob (ob (ev c (.now tm)) zab.asBool) fun t => Bool.rec (motive := fun _ => zbt) (den C φ fn N b κ tm H) (den C φ fn N a κ tm H) t) = some x := h
  rw [zac] at h; obtain ⟨t, h1, h2⟩ := h
  have key : ∀ n, (Bool.rec (motive := fun _ => zbt) (den C (φs n) fn N b (κs n) tm H) (den C (φs n) fn N a (κs n) tm H) t : zbt) = some x -> den C (φs n) fn N (.cond c a b) (κs n) tm H = some x := by
   simp_all [den]
  cases t with
  | true => obtain ⟨n, hn⟩ := (iha _ _ hκ).ex _ _ _ h2; grind
  | false => obtain ⟨n, hn⟩ := (ihb _ _ hκ).ex _ _ _ h2; grind
 | block id c ih =>
  intro κs κ hκ; refine ih (fun n => ⟨(κs n).norm, fun i tm H => Bool.rec (motive := fun _ => zbt) ((κs n).exit i tm H) ((κs n).norm tm H) (Nat.beq id i), (κs n).ret⟩) _ ⟨hκ.norm, fun i => ⟨fun n tm H x h => ?_, fun tm H x h => ?_⟩, hκ.ret⟩
  ·simp only [zqk] at h ⊢
   split at h
   ·rename_i e; rw [yab e]; exact hκ.norm.up n _ _ _ h
   ·rename_i e; rw [yaa e]; exact (hκ.exit i).up n _ _ _ h
  ·simp only [zqk] at h ⊢
   split at h
   ·rename_i e; obtain ⟨n, hn⟩ := hκ.norm.ex _ _ _ h; grind
   ·rename_i e; obtain ⟨n, hn⟩ := (hκ.exit i).ex _ _ _ h; grind
 | loop live c ih =>
  intro κs κ hκ; refine ⟨fun n => zhl (hφ.up n) (.loop live c) _ _ (kle hκ n), fun tm H x h => ?_⟩
  obtain ⟨m, hm⟩ := zzb3 h
  have it : ∀ m, zyd (fun n => (Nat.rec (motive := fun _ => Tm -> zaf -> zbt) (fun _ _ => none) (fun _ r tm H => den C (φs n) fn N c ⟨r, (κs n).exit, (κs n).ret⟩ (keep live.kept tm) H) m : Tm -> zaf -> zbt))
    (Nat.rec (motive := fun _ => Tm -> zaf -> zbt) (fun _ _ => none) (fun _ r tm H => den C φ fn N c ⟨r, κ.exit, κ.ret⟩ (keep live.kept tm) H) m) := by
   intro m; induction m with
   | zero => exact ⟨fun _ _ _ _ h => h, fun _ _ _ h => by cases h⟩
   | succ m ihm =>
    have := ih _ _ (⟨ihm, hκ.exit, hκ.ret⟩ : zzk5 (fun n => ⟨(Nat.rec (motive := fun _ => Tm -> zaf -> zbt) (fun _ _ => none) (fun _ r tm H => den C (φs n) fn N c ⟨r, (κs n).exit, (κs n).ret⟩ (keep live.kept tm) H) m : Tm -> zaf -> zbt), (κs n).exit, (κs n).ret⟩) ⟨(Nat.rec (motive := fun _ => Tm -> zaf -> zbt) (fun _ _ => none) (fun _ r tm H => den C φ fn N c ⟨r, κ.exit, κ.ret⟩ (keep live.kept tm) H) m : Tm -> zaf -> zbt), κ.exit, κ.ret⟩)
    exact ⟨fun n tm H x h => this.up n _ _ _ h, fun tm H x h => this.ex _ _ _ h⟩
  obtain ⟨n, hn⟩ := (it m).ex _ _ _ hm
  exact ⟨n, (zqv fun m y hy => z2t (fun κ κ' h => zhl (fun _ _ _ _ h => h) c κ κ' h) live.kept m _ _ _ hy).2 ⟨m, hn⟩⟩
 | exit id => exact fun κs κ hκ => hκ.exit id
 | ret => exact fun κs κ hκ => hκ.ret
 | cut live c ih => exact fun κs κ hκ => ⟨fun n tm H x h => (ih _ _ hκ).up n _ _ _ h, fun tm H x h => (ih _ _ hκ).ex _ _ _ h⟩
 | range i pl f ps as c ih => exact fun κs κ hκ => ⟨fun n tm H x h => (zuu hφ hκ).up n _ _ _ h, fun tm H x h => (zuu hφ hκ).ex _ _ _ h⟩
theorem zzia {live : PI} {c : zbb} {κ : Kt} {tm : Tm} {H : zaf} : den C φ fn N (.loop live c) κ tm H = den C φ fn N c ⟨den C φ fn N (.loop live c) κ, κ.exit, κ.ret⟩ (keep live.kept tm) H := by
 have self : OLe φ φ := fun _ _ _ _ h => h
 have up : ∀ m, Le2 (Nat.rec (motive := fun _ => Tm -> zaf -> zbt) (fun _ _ => none) (fun _ r tm H => den C φ fn N c ⟨r, κ.exit, κ.ret⟩ (keep live.kept tm) H) m)
   (Nat.rec (motive := fun _ => Tm -> zaf -> zbt) (fun _ _ => none) (fun _ r tm H => den C φ fn N c ⟨r, κ.exit, κ.ret⟩ (keep live.kept tm) H) (m + 1)) := z2t (zhl self c) live.kept
 have some_iff : ∀ tm H x, den C φ fn N (.loop live c) κ tm H = some x ↔ ∃ m, (Nat.rec (motive := fun _ => Tm -> zaf -> zbt) (fun _ _ => none) (fun _ r tm H => den C φ fn N c ⟨r, κ.exit, κ.ret⟩ (keep live.kept tm) H) m : Tm -> zaf -> zbt) tm H = some x :=
  fun tm H x => zqv fun m y hy => up m _ _ _ hy
 have sup : zzk5 (fun m => ⟨(Nat.rec (motive := fun _ => Tm -> zaf -> zbt) (fun _ _ => none) (fun _ r tm H => den C φ fn N c ⟨r, κ.exit, κ.ret⟩ (keep live.kept tm) H) m : Tm -> zaf -> zbt), κ.exit, κ.ret⟩) ⟨den C φ fn N (.loop live c) κ, κ.exit, κ.ret⟩ :=
  ⟨⟨up, fun tm H x h => (some_iff tm H x).1 h⟩, fun i => ⟨fun _ _ _ _ h => h, fun _ _ _ h => ⟨0, h⟩⟩, ⟨fun _ _ _ _ h => h, fun _ _ _ h => ⟨0, h⟩⟩⟩
 have key : ∀ x, den C φ fn N (.loop live c) κ tm H = some x ↔ den C φ fn N c ⟨den C φ fn N (.loop live c) κ, κ.exit, κ.ret⟩ (keep live.kept tm) H = some x := by
  intro x; rw [some_iff]; constructor
  ·rintro ⟨m, hm⟩
   cases m with
   | zero => cases hm
   | succ m => exact zhl self c ⟨(Nat.rec (motive := fun _ => Tm -> zaf -> zbt) (fun _ _ => none) (fun _ r tm H => den C φ fn N c ⟨r, κ.exit, κ.ret⟩ (keep live.kept tm) H) m : Tm -> zaf -> zbt), κ.exit, κ.ret⟩ ⟨den C φ fn N (.loop live c) κ, κ.exit, κ.ret⟩ ⟨fun tm H y hy => (some_iff tm H y).2 ⟨m, hy⟩, fun _ _ _ _ h => h, fun _ _ _ h => h⟩ _ _ _ hm
  ·intro h
   obtain ⟨m, hm⟩ := (zsu (φs := fun _ => φ) ⟨fun _ => self, fun _ _ _ _ h => ⟨0, h⟩⟩ c _ _ sup).ex _ _ _ h
   exact ⟨m + 1, hm⟩
 cases h : den C φ fn N (.loop live c) κ tm H with
 | some x => grind
 | none =>
  cases h2 : den C φ fn N c ⟨den C φ fn N (.loop live c) κ, κ.exit, κ.ret⟩ (keep live.kept tm) H with
  | none => rfl
  | some x => simp_all
end
end Go.Am
namespace Go.Am
open Go Go.RowKit
def zzhm : List zcj -> Bool
 | .reg .. :: _ => true
 | _ => false
section
variable {P : Program} {C : Ctx} {B N : Nat} {I : World -> Prop} {μ : Mu} {w : World} {base : List Frame} {m : Machine}
theorem zwb (hF : z06 P C) {f : Nat} {args : List zab} {args' : Array Value} {H : zaf} (hH : zbp B N μ H w) (hl : zbw μ args args'.toList) {g : zap} (he : zeg C f args false = some g) :
  zci P C B N μ base (lone (Frame.enter P f args' .normal) base w) w (.next ⟨g, [], H⟩) :=
 ⟨μ, _, [], w, .refl _ _, fun _ _ h => h, Below.refl N w, hH, (zoe (cur := some H) hF he hl).1, .nil⟩
end
end Go.Am
namespace Go.Am
open Go Go.RowKit
inductive zho (C : Ctx) : zik -> zik -> Prop
 | refl (o : zik) : zho C o o
 | step {o o' : zik} : zho C (zqe C o) o' -> zho C o o'
 | forget {todo : List zcj} {tm tm' : Tm} {R : zgz} {cs : List zap} {H : zaf} {o' : zik} : zzhm todo = false -> (∀ i v, tm'.get i = some v -> tm.get i = some v) -> zho C (.next ⟨⟨todo, tm', R⟩, cs, H⟩) o' -> zho C (.next ⟨⟨todo, tm, R⟩, cs, H⟩) o'
theorem zho.trans {C : Ctx} {a b c : zik} (h : zho C a b) (k : zho C b c) : zho C a c := by
 induction h with
 | refl => exact k
 | step _ ih => exact .step (ih k)
 | forget h1 h2 _ ih => exact .forget h1 h2 (ih k)
section
variable {P : Program} {C : Ctx} {B N : Nat} {I : World -> Prop} {μ : Mu} {w : World} {base : List Frame} {m : Machine}
theorem zc3.forget {n : Nat} {tm tm' : Tm} {tmps : Array Value} (h : zc3 μ n tm tmps) (hs : ∀ i v, tm'.get i = some v -> tm.get i = some v) : zc3 μ n tm' tmps := ⟨h.1, fun i v hv => h.2 i v (hs i v hv)⟩
theorem zzdc {todo : List zcj} {tm tm' : Tm} {R : zgz} {acs : List zap} {H : zaf} (hr : zzhm todo = false) (hs : ∀ i v, tm'.get i = some v -> tm.get i = some v) (h : zci P C B N μ base m w (.next ⟨⟨todo, tm, R⟩, acs, H⟩)) :
  zci P C B N μ base m w (.next ⟨⟨todo, tm', R⟩, acs, H⟩) := by
 obtain ⟨μ', b, cs, w', h1, h2, h3, h4, h5, h6⟩ := h
 obtain ⟨bfn, btmps, btodo, bdefers, bmode, bkind, bround⟩ := b
 refine ⟨μ', _, cs, w', h1, h2, h3, h4, ⟨h5.rest, ?_⟩, h6⟩
 have hb := h5.body
 simp only at hb ⊢
 split at hb
 ·rename_i hm
  rw [yab hm]
  cases hb with
  | plain a t => exact .plain a (t.forget hs)
  | reg _ _ _ _ => cases hr
  | mid _ _ _ _ _ => cases hr
 ·rename_i hm
  rw [yaa hm]; exact hb.forget hs
theorem zci.reach (hS : Sim P C B N I) (hI : I w) {o o' : zik} (h : zho C o o') : zci P C B N μ base m w o -> zci P C B N μ base m w o' := by
 induction h with
 | refl => exact id
 | step _ ih => grind [z4d]
 | forget hr hs _ ih => grind [zzdc]
end
def zko (C : Ctx) (f : Nat) (ds : List zlr) (fr : zap) (H : zaf) (v : zab) (fl : Bool := false) : Prop :=
 fr.R.mode = .returning /\ fr.R.defers = ds /\ fr.R.deferred = fl /\ fr.R.fn = f /\ ∃ fn l, C.fns.get f = some fn /\ zfe C H fr.tm fn.results.toList = some l /\ v = zmw l
def z11 (r : zj1) (l : Nat) (tm : Tm) : zap := ⟨[.code r.assign, .beginRound, .code r.body], tm, ⟨r.fn, r.n, [], .run, false, some l⟩⟩
def zzk6 (f : Nat) (ds : List zlr) (fr : zap) (v : zab) (fl : Bool := false) : Prop := fr.R.mode = .panicking [⟨v, false⟩] /\ fr.R.defers = ds /\ fr.R.deferred = fl /\ fr.R.fn = f
def zmc (C : Ctx) (f : Nat) (ds : List zlr) (fr : zap) (H : zaf) (o : Out) (fl : Bool := false) : Prop := if o.p = true then zzk6 f ds fr o.v fl /\ ∃ fn, C.fns.get f = some fn else zko C f ds fr H o.v fl
structure zih (C : Ctx) (φ : Ora) : Prop where
 fn : ∀ f args H x, φ (.func f) args H = some x -> ∃ g, zeg C f args false = some g /\ ∀ acs, ∃ fr', zho C (.next ⟨g, acs, H⟩) (.next ⟨fr', acs, x.2⟩) /\ zmc C f [] fr' x.2 x.1
 rd : ∀ l args H x, φ (.yld l) args H = some x -> ∃ r tm, zdr H l = some r /\ ze1 r.n r.params args r.tm = some tm /\ x.1.p = false /\ ∀ c acs c', zb4 c x.1.v = some c' -> zho C (.next ⟨z11 r l tm, c :: acs, H⟩) (.next ⟨c', acs, x.2⟩)
abbrev zzfb := List zlr -> zik -> Out × zaf -> Prop
def Fin (C : Ctx) (E : zzfb) (ds : List zlr) (o : zik) (x : Out × zaf) : Prop := ∃ o', zho C o o' /\ E ds o' x
theorem Fin.step {C : Ctx} {E : zzfb} {ds : List zlr} {o : zik} {x : Out × zaf} (h : Fin C E ds (zqe C o) x) : Fin C E ds o x := by
 obtain ⟨fr, h1, h2⟩ := h; exact ⟨fr, .step h1, h2⟩
theorem Fin.of {C : Ctx} {E : zzfb} {ds : List zlr} {o o' : zik} {x : Out × zaf} (hr : zho C o o') (h : Fin C E ds o' x) : Fin C E ds o x := by
 obtain ⟨fr, h1, h2⟩ := h; exact ⟨fr, hr.trans h1, h2⟩
abbrev RR (f N : Nat) (ro : Option Nat) (ds : List zlr) (fl : Bool := false) : zgz := ⟨f, N, ds, .run, fl, ro⟩
structure z8d (C : Ctx) (E : zzfb) (G : Out × zaf -> Prop) (f N : Nat) (ro : Option Nat) (acs : List zap) (fl : Bool := false) : Prop where
 not : ∀ ds todo tm H x, ¬ E ds (.next ⟨⟨todo, tm, RR f N ro ds fl⟩, acs, H⟩) x
 all : ro = none -> ∀ x, G x
 pop : ro = none -> ∀ r ds o x, x.1.p = false -> E (⟨none, r, []⟩ :: ds) o x -> zf4 x.2 r = some (some []) -> ∃ o', zho C o o' /\ E ds o' (x.1, setBlk x.2 r (.deferred none))
 pan : ∀ ds todo tm x, G x -> x.1.p = true -> E ds (.next ⟨zk8 ⟨todo, tm, RR f N ro ds fl⟩ [⟨x.1.v, false⟩], acs, x.2⟩) x
structure zvp (C : Ctx) (E : zzfb) (G : Out × zaf -> Prop) (f N : Nat) (ro : Option Nat) (acs : List zap) (κ : Kt) (k : List zcj) (fl : Bool := false) : Prop where
 norm : ∀ ds x tm H, G x -> κ.norm tm H = some x -> Fin C E ds (.next ⟨⟨k, tm, RR f N ro ds fl⟩, acs, H⟩) x
 exit : ∀ ds x i tm H, G x -> κ.exit i tm H = some x -> Fin C E ds (.next ⟨⟨.code (.exit i) :: k, tm, RR f N ro ds fl⟩, acs, H⟩) x
 ret : ∀ ds x tm H, G x -> κ.ret tm H = some x -> ∀ k', Fin C E ds (.next ⟨⟨.code .ret :: k', tm, RR f N ro ds fl⟩, acs, H⟩) x
structure z3q where
 i : Nat
 pl : List Nat
 f : Operand
 ps : Array Nat
 as : List (Nat × Array Oper)
 c : zbb
def zcs (c : zbb) : List z3q :=
 zbb.rec (motive := fun _ => List z3q) [] (fun _ _ _ => []) (fun _ _ a b => zfp a b) (fun _ _ _ a b => zfp a b) (fun _ _ a => a) (fun _ _ a => a) (fun _ => []) [] (fun _ _ a => a)
  (fun i pl f ps as c a => ⟨i, pl, f, ps, as, c⟩ :: a) c
section
variable {C : Ctx} {φ : Ora} {E : zzfb} {G : Out × zaf -> Prop} {ds : List zlr} {ro : Option Nat} {f N : Nat} {acs : List zap} {R : zgz} {κ : Kt} {k : List zcj} {x : Out × zaf} {all : Array Oper} {fl : Bool}
theorem zbx (hR : R.mode.running = true) {todo : List zcj} {tm : Tm} {H : zaf} : zqe C (.next ⟨⟨todo, tm, R⟩, acs, H⟩) = zod C todo tm R acs H := by
 show (bif R.mode.running then zod C todo tm R acs H else _) = _
 grind
theorem zzc3 {fr c c' : zap} {H : zaf} {v : zab} (hr : zko C f [] fr H v) (hf : zb4 c v = some c') : zqe C (.next ⟨fr, c :: acs, H⟩) = .next ⟨c', acs, H⟩ := by
 obtain ⟨h1, h2, h3, h4, fn, l, h5, h6, rfl⟩ := hr
 obtain ⟨todo, tm, ffn, n, defers, mode, deferred, round⟩ := fr
 simp only at h1 h2 h3 h4 h6
 subst h1 h2 h3 h4
 show zmu C ⟨todo, tm, _⟩ (c :: acs) H = _
 unfold zmu; rw [h5, zad, h6]; simp only [cond_false]; rw [hf]; rfl
theorem zzgw {fr c : zap} {H : zaf} {v : zab} {g : Nat} {fn : Func} (hrun : c.R.mode = .run) (hr : zzk6 g [] fr v) (hf : C.fns.get g = some fn) : zqe C (.next ⟨fr, c :: acs, H⟩) = .next ⟨zk8 c [⟨v, false⟩], acs, H⟩ := by
 obtain ⟨h1, h2, h3, h4⟩ := hr
 obtain ⟨todo, tm, ffn, n, defers, mode, deferred, round⟩ := fr
 simp only at h1 h2 h3 h4
 subst h1 h2 h3 h4
 show zin (ob (C.fns.get ffn) fun _ => some (⟨zk8 c [⟨v, false⟩], acs, H⟩ : zij)) 19 = _
 rw [hf]; rfl
theorem zo3 (hφ : zih C φ) {r : zqb} {H : zaf} {K : zab -> zaf -> zbt} (h : zj8 φ r H K = some x) {fr : zap}
  (hK : ∀ v H' c', zb4 fr v = some c' -> K v H' = some x -> Fin C E ds (.next ⟨c', acs, H'⟩) x) (hfin : ∀ v, ∃ c', zb4 fr v = some c') (hrun : fr.R.mode = .run) (hP : x.1.p = true -> E ds (.next ⟨zk8 fr [⟨x.1.v, false⟩], acs, x.2⟩) x) : Fin C E ds (zpo r C fr acs H) x := by
 cases r <;> simp only [zj8] at h <;> try (cases h; done)
 case val v H' =>
  have h2 : K v H' = some x := h
  obtain ⟨c', hc⟩ := hfin v
  show Fin C E ds (zzmc v H' C fr acs H) x
  unfold zzmc; rw [hc]; exact hK _ _ _ hc h2
 case enter g args =>
  rw [zac] at h; obtain ⟨p, h1, h4⟩ := h
  obtain ⟨c', hc⟩ := hfin p.1.v
  show Fin C E ds (zzg g args C fr acs H) x
  unfold zzg; obtain ⟨ge, he, r0⟩ := hφ.fn _ _ _ _ h1
  obtain ⟨fr', r1, r2⟩ := r0 (fr :: acs)
  rw [he]
  cases hp : p.1.p with
  | true =>
   rw [hp] at h4; have h4 : some p = some x := h4
   cases h4; unfold zmc at r2; rw [yab hp] at r2; obtain ⟨r2, fn, hfn⟩ := r2
   refine Fin.of (r1.trans (.step ?_)) ⟨_, .refl _, hP hp⟩
   rw [zzgw hrun r2 hfn]; exact .refl _
  | false =>
   rw [hp] at h4; have h4 : K p.1.v p.2 = some x := h4
   unfold zmc at r2; rw [hp, yaa (by simp)] at r2
   refine Fin.of (r1.trans (.step ?_)) (hK _ _ _ hc h4)
   rw [zzc3 r2 hc]; exact .refl _
 case round l args =>
  rw [zac] at h; obtain ⟨p, h1, h4⟩ := h
  rw [zae] at h4; obtain ⟨c', hc⟩ := hfin p.1.v
  obtain ⟨r, tm, e1, e2, e3, r0⟩ := hφ.rd _ _ _ _ h1
  show Fin C E ds (zzf l args C fr acs H) x
  unfold zzf; rw [e1, zad, e2, zad]; exact Fin.of (r0 _ _ _ hc) (hK _ _ _ hc h4.2)
 case panic v =>
  cases h; exact ⟨_, .refl _, hP rfl⟩
theorem zk7 {m : zqm} (h : m.running = true) : m = .run := by cases m <;> first | rfl | cases h
theorem z6v (hφ : zih C φ) (hR : R.mode.running = true) (hN : R.n = N) (hP : ∀ todo tm, x.1.p = true -> E ds (.next ⟨zk8 ⟨todo, tm, R⟩ [⟨x.1.v, false⟩], acs, x.2⟩) x) {κn : Tm -> zaf -> zbt} (hκ : ∀ tm H, κn tm H = some x -> Fin C E ds (.next ⟨⟨k, tm, R⟩, acs, H⟩) x) :
  ∀ (l : List Oper) (tm : Tm) (H : zaf), ztx C φ all N κn l tm H = some x -> Fin C E ds (zfb C all k R acs l tm H) x := by
 intro l; induction l with
 | nil => exact fun tm H h => hκ tm H h
 | cons o l ih =>
  intro tm H h; rw [zgw, zac] at h; obtain ⟨w, h1, h⟩ := h
  rw [zeu, h1]
  cases w with
  | false => simp_all
  | true =>
   rw [yab rfl] at h; simp only []; generalize (aop o.op).f C (.now tm) H = r at h
   cases hv : r.asVal with
   | some p =>
    have : r = .val p.1 p.2 := by cases r <;> simp [zqb.asVal] at hv; rw [<- hv]
    grind [zj8, zcp]
   | none =>
    refine zo3 hφ h (fun v H' c' hc hK => ?_) (fun v => ⟨⟨.ops all l :: k, putA R.n tm o.dst v, R⟩, by unfold zb4; simp only [hR, cond_true]; rfl⟩) (zk7 hR) (hP _ _)
    unfold zb4 at hc; simp only [hR, cond_true] at hc; have hc : some (⟨.ops all l :: k, putA R.n tm o.dst v, R⟩ : zap) = some c' := hc
    cases hc; refine .step ?_
    rw [zbx hR, hN]; rw [zcp] at hK; exact ih _ _ hK.2
theorem ziy {H : zaf} {old : Tm} {olds : List (Nat × List Nat)} {K : Tm -> zbt} : ∀ (l : List Nat) (tm : Tm), zch C H all N old olds K l tm = some x -> ∃ tm', zf0 C H all N old olds l tm = some tm' /\ K tm' = some x := by
 intro l; induction l with
 | nil => exact fun tm h => ⟨tm, rfl, h⟩
 | cons i l ih =>
  intro tm h; rw [zi0, zac] at h; obtain ⟨o, h1, h⟩ := h
  rw [zac] at h; grind [zf0, zad, zac, zcp]
theorem zxc {C : Ctx} {o : Op} {e : Env} {H : zaf} {r : zqb} (hf : ze5 o = true) (h : (aop o).f C e H = r) (h1 : ∀ q, r ≠ ztm q) : False := by
 have key : ∀ q : Option (zab × zaf), ztm q = r -> False := fun q e => h1 q e.symm
 cases o <;> simp only [ze5] at hf <;> first
  | (cases hf; done)
  | exact key _ h
theorem zwc (hφ : zih C φ) (hR : R.mode.running = true) (hN : R.n = N) (hP : ∀ todo tm, x.1.p = true -> E ds (.next ⟨zk8 ⟨todo, tm, R⟩ [⟨x.1.v, false⟩], acs, x.2⟩) x) {κn : Tm -> zaf -> zbt} (hκ : ∀ tm H, κn tm H = some x -> Fin C E ds (.next ⟨⟨k, tm, R⟩, acs, H⟩) x) {old : Tm} {olds : List (Nat × List Nat)} :
  ∀ (l : List zc7) (tm : Tm) (H : zaf), zcv C φ all N old olds κn l tm H = some x -> Fin C E ds (.next ⟨⟨.reg all old olds l :: k, tm, R⟩, acs, H⟩) x := by
 intro l; induction l with
 | nil =>
  intro tm H h; refine .step ?_
  rw [zbx hR]; exact hκ tm H h
 | cons st l ih =>
  intro tm H h
  cases hg : zg1 all st with
  | true =>
   rw [zft hg, zkg] at h; obtain ⟨h0, es, H', h1, h2, h3⟩ := h
   obtain ⟨tm', hl1, hl2⟩ := ziy _ _ h3
   refine .step ?_
   rw [zbx hR]; show Fin C E ds (z5z all old olds (st :: l) C k tm R acs H) x
   unfold z5z; have hg0 := zdk.1 hg
   rw [za1] at hg0; have hnone : zev all.toList st.heavy = none := by
    grind [zbs]
   simp only [hnone]; rw [zay, yab (zdk.2 (by rw [za1]; omega)), zay, yab (show Nat.blt (zbf all.toList + zbf all.toList) st.heavy = true from hg)]
   unfold z3w; rw [h0, show ∀ (x : Option zij), zaj true x = x from fun _ => rfl, h1, zad, h2, zad, hN, hl1, zad]
   exact ih _ _ hl2
  | false =>
  rw [zfl hg, zac] at h; obtain ⟨o, h1, h⟩ := h
  rw [zac] at h; obtain ⟨w, h2', h⟩ := h
  have hgn : Nat.blt (zbf all.toList + zbf all.toList) st.heavy = false := hg
  by_cases hfl : Nat.blt (zbf all.toList) st.heavy = true
  ·-- an operation that is done early
   unfold zht at h2'; unfold hvI at h1 h; rw [hfl] at h1 h2' h
   simp only [cond_true, zac, zae, ybb] at h1 h2'
   obtain ⟨w', h2, ⟨⟨hw, hfo⟩, hlo⟩, h2'⟩ := h2'
   cases h2'
   subst hw; simp only [if_true, cond_true] at h; have hval : ∃ v H', (aop o.op).f C (.mixed tm old (zda (Nat.sub st.heavy (Nat.succ (zbf all.toList))) olds) (zb9 o.op)) H = .val v H' := by
    cases hr : (aop o.op).f C (.mixed tm old (zda (Nat.sub st.heavy (Nat.succ (zbf all.toList))) olds) (zb9 o.op)) H with
    | val v H' => simp_all
    | enter g args => exact (zxc hfo hr fun q => by cases q <;> simp [ztm]).elim
    | round g args => exact (zxc hfo hr fun q => by cases q <;> simp [ztm]).elim
    | panic v => exact (zxc hfo hr fun q => by cases q <;> simp [ztm]).elim
    | _ => rw [hr] at h; cases h
   obtain ⟨v, H', hv⟩ := hval
   rw [hv] at h; have h : (zim C o.type v fun v => zfn C H' all old olds (putA N tm o.dst v) (zch C H' all N old olds (fun tm => zcv C φ all N old olds κn l tm H') st.lights (putA N tm o.dst v)) st.again) = some x := h
   rw [zcp] at h; obtain ⟨ha, hl⟩ := zif _ h.2
   obtain ⟨tm', hl1, hl2⟩ := ziy _ _ hl
   refine .step ?_
   rw [zbx hR]; show Fin C E ds (z5z all old olds (st :: l) C k tm R acs H) x
   unfold z5z; have hnone : zev all.toList st.heavy = none := by
    grind [zbs, zdk, za1]
   simp only [hnone]; rw [hfl, cond_true, hgn, cond_false]; unfold z3x; rw [h1, zad, h2, zad, hv, hlo]; show Fin C E ds (zin (ob (zf0 C H' all R.n old olds st.lights (putA R.n tm o.dst v)) fun tm' => some ⟨⟨.reg all old olds l :: k, tm', R⟩, acs, H'⟩) 23) x
   rw [hN, hl1, zad]; exact ih _ _ hl2
  have hfl : Nat.blt (zbf all.toList) st.heavy = false := Bool.eq_false_iff.2 hfl
  unfold zht at h2'; unfold hvI at h1 h; rw [hfl] at h1 h2' h
  simp only [cond_false, zac] at h1 h2'
  obtain ⟨w', h2, h2'⟩ := h2'
  cases h2'
  simp only [cond_false] at h; have back0 : ∀ v H' c', zb4 (⟨.reg all old olds (st :: l) :: k, tm, R⟩ : zap) v = some c' →
    zfn C H' all old olds (putA N tm o.dst v) (zch C H' all N old olds (fun tm => zcv C φ all N old olds κn l tm H') st.lights (putA N tm o.dst v)) st.again = some x -> Fin C E ds (.next ⟨c', acs, H'⟩) x := by
   intro v H' c' hc hK; unfold zb4 at hc; simp only [hR, cond_true] at hc; have hc : (ob (zev all.toList st.heavy) fun o => some (⟨.reg all old olds (⟨all.size, st.lights, st.again⟩ :: l) :: k, putA R.n tm o.dst v, R⟩ : zap)) = some c' := hc
   rw [h1, zad] at hc
   cases hc; refine .step ?_
   rw [zbx hR, hN]; obtain ⟨ha, hl⟩ := zif _ hK
   obtain ⟨tm', hl1, hl2⟩ := ziy _ _ hl
   show Fin C E ds (z5z all old olds (⟨all.size, st.lights, st.again⟩ :: l) C k (putA N tm o.dst v) R acs H') x
   unfold z5z; have : zev all.toList all.size = none := by rw [zbs]; simp
   simp only [this]; rw [zay, yaa fun e => by grind [zdk, za1]]; show Fin C E ds (zq8 all old olds ⟨all.size, st.lights, st.again⟩ l C k (putA N tm o.dst v) R acs H') x
   unfold zq8; simp only [ha, hN, hl1, zad]; exact ih _ _ hl2
  have back : ∀ v H' c', zb4 (⟨.reg all old olds (st :: l) :: k, tm, R⟩ : zap) v = some c' →
    (zim C o.type v fun v => zfn C H' all old olds (putA N tm o.dst v) (zch C H' all N old olds (fun tm => zcv C φ all N old olds κn l tm H') st.lights (putA N tm o.dst v)) st.again) = some x -> Fin C E ds (.next ⟨c', acs, H'⟩) x := by
   grind [zcp]
  refine .step ?_
  rw [zbx hR]; show Fin C E ds (z5z all old olds (st :: l) C k tm R acs H) x
  unfold z5z; simp only [h1]; unfold z3v; rw [h2]; simp only []; have hfin : ∀ v, ∃ c', zb4 (⟨.reg all old olds (st :: l) :: k, tm, R⟩ : zap) v = some c' := fun v => ⟨⟨.reg all old olds (⟨all.size, st.lights, st.again⟩ :: l) :: k, putA R.n tm o.dst v, R⟩, by
   unfold zb4; simp only [hR, cond_true]; show (ob (zev all.toList st.heavy) fun o => some (⟨.reg all old olds (⟨all.size, st.lights, st.again⟩ :: l) :: k, putA R.n tm o.dst v, R⟩ : zap)) = _
   rw [h1]; rfl⟩
  cases w with
  | true =>
   simp only [if_true] at h; exact zo3 hφ h back hfin (zk7 hR) (hP _ _)
  | false =>
   simp only [ybq, if_false] at h; obtain ⟨c', hc⟩ := hfin zbj
   show Fin C E ds (zzmc zbj H C _ acs H) x
   unfold zzmc; rw [hc]; exact back0 _ _ _ hc h
theorem zzhl {live : List Nat} {tm : Tm} {i : Nat} {v : zab} (h : (keep live tm).get i = some v) : tm.get i = some v := by
 unfold keep Tm.get at h; simp only [zqk] at h; split at h
 case isFalse => cases h
 rename_i hk; have key : ∀ live : List Nat, (z69 tm live).get i = some v -> tm.get i = some v := by
  intro live; induction live with
  | nil => grind [z69, Tr.get_leaf]
  | cons j live ih =>
   grind [z69, Tr.get_set]
 grind
theorem zva {todo : List zcj} (hr : zzhm todo = false) {live : List Nat} {tm : Tm} {H : zaf} (h : Fin C E ds (.next ⟨⟨todo, keep live tm, R⟩, acs, H⟩) x) : Fin C E ds (.next ⟨⟨todo, tm, R⟩, acs, H⟩) x :=
 Fin.of (.forget hr (fun _ _ => zzhl) (.refl _)) h
theorem zoc (hE : z8d C E G f N ro acs fl) {t1 t2 : List zcj} (h1 : zzhm t1 = false) (hs : ∀ tm H, zod C t1 tm (RR f N ro ds fl) acs H = zod C t2 tm (RR f N ro ds fl) acs H) {tm : Tm} {H : zaf} (h : Fin C E ds (.next ⟨⟨t2, tm, RR f N ro ds fl⟩, acs, H⟩) x) : Fin C E ds (.next ⟨⟨t1, tm, RR f N ro ds fl⟩, acs, H⟩) x := by
 obtain ⟨o', hr, hv⟩ := h
 refine ⟨o', ?_, hv⟩
 generalize ho : (.next ⟨⟨t2, tm, RR f N ro ds fl⟩, acs, H⟩ : zik) = o at hr
 induction hr generalizing tm with
 | refl =>
  subst ho; exact (hE.not _ _ _ _ _ hv).elim
 | step h ih =>
  subst ho; refine .step ?_
  rw [zbx rfl, hs, <- zbx rfl]; exact h
 | forget hr2 hs2 h ih =>
  cases ho; exact .forget h1 hs2 (ih hv rfl)
theorem z64 {i : Nat} {t1 t2 : List zcj} {tm : Tm} {H : zaf} : zjr (some (.exit i)) C ⟨t1, tm, R⟩ acs H = zjr (some (.exit i)) C ⟨t2, tm, R⟩ acs H := by
 obtain ⟨a, b, c, d, e, ro⟩ := R
 unfold zjr
 cases ro <;> rfl
theorem zso (hE : z8d C E G f N ro acs fl) {i : Nat} {y : zcj} (hy : ∀ j, y.blockId = some j -> Nat.beq j i = false) {tm : Tm} {H : zaf} (h : Fin C E ds (.next ⟨⟨.code (.exit i) :: k, tm, RR f N ro ds fl⟩, acs, H⟩) x) : Fin C E ds (.next ⟨⟨.code (.exit i) :: y :: k, tm, RR f N ro ds fl⟩, acs, H⟩) x := by
 refine zoc hE rfl (fun tm H => ?_) h
 show zyi i C (y :: k) tm (RR f N ro ds fl) acs H = zyi i C k tm (RR f N ro ds fl) acs H
 grind [zgm, zyi, z64]
theorem zze (hφ : zih C φ) (hE : z8d C E G f N none acs fl) {κ : Kt} (hκ : zvp C E G f N none acs κ k fl) {fo : Operand} {ps : Array Nat} {a b : Code} {tm : Tm} {H : zaf} (h : ziw C φ f N κ fo ps.toList a b tm H = some x) : Fin C E ds (.next ⟨⟨.code (.rangeFunc fo ps a b) :: k, tm, RR f N none ds fl⟩, acs, H⟩) x := by
 unfold ziw at h; rw [zac] at h; obtain ⟨v, h1, h⟩ := h
 rw [zac] at h; obtain ⟨⟨qf, q1, q2⟩, h2, h⟩ := h
 cases qf with
 | yld l => cases h
 | func g =>
  simp only [zae, zac] at h; obtain ⟨h3, y, h4, hy, r, h5, h6, z, h7, hz, d, h8, h9, h10⟩ := h
  have hy : y.1.p = false := by simpa using hy
  have hz : z.1.p = false := by simpa using hz
  have hp : C.prims.get g = none := by
   cases hx : C.prims.get g with
   | none => rfl
   | some u => rw [hx] at h3; cases h3
  obtain ⟨ge, he, r0⟩ := hφ.fn _ _ _ _ h4
  obtain ⟨fr', r1, r2⟩ := r0 (⟨.inRange (H.next + 1) :: k, tm, RR f N none (⟨none, H.next, []⟩ :: ds) fl⟩ :: acs)
  unfold zmc at r2; rw [hy, yaa (by simp)] at r2
  refine .step ?_
  rw [zbx rfl]; show Fin C E ds (zyh fo ps a b C k tm (RR f N none ds fl) acs H) x
  have hin : zj9 C (H.next + 1) v = some ge := by
   grind [zj9, zad]
  unfold zyh; rw [h1, zad]; simp only [hin, zad]; refine Fin.of (r1.trans (.step ?_)) (?_ : Fin C E ds (.next ⟨⟨.endRange (H.next + 1) :: k, tm, RR f N none (⟨none, H.next, []⟩ :: ds) fl⟩, acs, y.2⟩) x)
  ·rw [zzc3 r2 (c' := ⟨.endRange (H.next + 1) :: k, tm, RR f N none (⟨none, H.next, []⟩ :: ds) fl⟩) rfl]
   exact .refl _
  refine .step ?_
  rw [zbx rfl]; show Fin C E ds (zkz (H.next + 1) C k tm (RR f N none (⟨none, H.next, []⟩ :: ds) fl) acs y.2) x
  unfold zkz; rw [h5, zad, h6]; have key : Fin C E (⟨none, H.next, []⟩ :: ds) (.next ⟨⟨(match r.pending with | some c => .code c :: k | none => k), tm, RR f N none (⟨none, H.next, []⟩ :: ds) fl⟩, acs, endLoop y.2 (H.next + 1) r⟩) z := by
   unfold zos at h7; split at h7
   ·rename_i e; rw [e]; exact hκ.norm _ _ _ _ (hE.all rfl _) h7
   ·rename_i e; rw [e]; exact hκ.ret _ _ _ _ (hE.all rfl _) h7 k
   grind
  obtain ⟨o', k1, k2⟩ := key
  have hd : zf4 z.2 H.next = some (some []) := by
   rw [h8]
   cases d with
   | none => cases h9
   | some l => cases l with | nil => rfl | cons _ _ => cases h9
  obtain ⟨o'', k3, k4⟩ := hE.pop rfl _ _ _ _ hz k2 hd
  cases h10; exact ⟨o'', k1.trans k3, k4⟩
theorem ziv {α : Type} {a b : List α} (h : zfp a b = []) : a = [] /\ b = [] := by grind [zca, List.append_eq_nil_iff]
theorem zoh (hφ : zih C φ) (hE : z8d C E G f N ro acs fl) : ∀ (c : zbb) (κ : Kt) (k : List zcj), (ro = none \/ zcs c = []) -> zvp C E G f N ro acs κ k fl -> ∀ ds x tm H, G x -> den C φ f N c κ tm H = some x -> Fin C E ds (.next ⟨⟨.code (zck c) :: k, tm, RR f N ro ds fl⟩, acs, H⟩) x := by
 intro c; induction c with
 | skip =>
  intro κ k _ hκ ds x tm H hG h; refine .step ?_
  rw [zbx rfl]; exact hκ.norm _ _ _ _ hG h
 | region id ops d =>
  intro κ k _ hκ ds x tm H hG h; refine .step ?_
  rw [zbx rfl]
  cases d with
  | false => exact z6v hφ rfl rfl (fun todo tm hp => hE.pan _ _ _ _ hG hp) (fun tm H h => hκ.norm _ _ _ _ hG h) _ _ _ h
  | true =>
   have h : (ob (ob (C.plans.get f) fun t => t.get id) fun p => zaj (zkr ops p) (zch C H ops N tm.cut p.olds (fun tm' => zcv C φ ops N tm.cut p.olds κ.norm p.stages tm' H) p.first tm.cut)) = some x := h
   rw [zac] at h; obtain ⟨p, h1, h⟩ := h
   rw [zae] at h; obtain ⟨tm', hl1, hl2⟩ := ziy _ _ h.2
   show Fin C E ds (z8m id ops C k tm (RR f N ro ds fl) acs H) x
   unfold z8m; rw [h1, zad, h.1, hl1]; exact zwc hφ rfl rfl (fun todo tm hp => hE.pan _ _ _ _ hG hp) (fun tm H h => hκ.norm _ _ _ _ hG h) _ _ _ hl2
 | seq a b iha ihb =>
  intro κ k hn hκ ds x tm H hG h; have hna : ro = none \/ zcs a = [] := hn.imp id fun e => (ziv e).1
  have hnb : ro = none \/ zcs b = [] := hn.imp id fun e => (ziv e).2
  refine zoc hE (t1 := .code (zck (.seq a b)) :: k) rfl (t2 := .code (zck a) :: .code (zck b) :: k) (fun _ _ => rfl) ?_
  exact iha ⟨den C φ f N b κ, κ.exit, κ.ret⟩ _ hna ⟨fun ds x tm H hG h => ihb _ _ hnb hκ ds x tm H hG h, fun ds x i tm H hG h => zso hE (fun _ e => by cases e) (hκ.exit _ _ _ _ _ hG h), hκ.ret⟩ ds x tm H hG h
 | cond c a b iha ihb =>
  intro κ k hn hκ ds x tm H hG h; have hna : ro = none \/ zcs a = [] := hn.imp id fun e => (ziv e).1
  have hnb : ro = none \/ zcs b = [] := hn.imp id fun e => (ziv e).2
  have h : (ob (ob (ev c (.now tm)) zab.asBool) fun t => Bool.rec (motive := fun _ => zbt) (den C φ f N b κ tm H) (den C φ f N a κ tm H) t) = some x := h
  rw [zac] at h; obtain ⟨t, h1, h⟩ := h
  refine .step ?_
  rw [zbx rfl]; show Fin C E ds (z8n c (zck a) (zck b) C k tm (RR f N ro ds fl) acs H) x
  unfold z8n; rw [h1]
  cases t with
  | true => exact iha _ _ hna hκ _ _ _ _ hG h
  | false => exact ihb _ _ hnb hκ _ _ _ _ hG h
 | block id c ih =>
  intro κ k hn hκ ds x tm H hG h; refine .step ?_
  rw [zbx rfl]; have nx : ∀ ds x tm H, G x -> κ.norm tm H = some x -> Fin C E ds (.next ⟨⟨.inBlock id :: k, tm, RR f N ro ds fl⟩, acs, H⟩) x := by
   intro ds x tm H hG h; refine .step ?_
   rw [zbx rfl]; exact hκ.norm _ _ _ _ hG h
  refine ih ⟨κ.norm, fun i tm H => Bool.rec (motive := fun _ => zbt) (κ.exit i tm H) (κ.norm tm H) (Nat.beq id i), κ.ret⟩ _ hn ⟨nx, fun ds x i tm H hG h => ?_, hκ.ret⟩ ds x tm H hG h
  dsimp only at h
  cases hb : Nat.beq id i with
  | true =>
   rw [hb] at h; refine .step ?_
   rw [zbx rfl]; show Fin C E ds (zyi i C (.inBlock id :: k) tm (RR f N ro ds fl) acs H) x
   have e : zgm i (.inBlock id :: k) = some k := by
    show (bif Nat.beq id i then some k else zgm i k) = _
    grind
   unfold zyi; rw [e]; exact hκ.norm _ _ _ _ hG h
  | false =>
   rw [hb] at h; exact zso hE (fun j e => by cases e; exact hb) (hκ.exit _ _ _ _ _ hG h)
 | loop live c ih =>
  intro κ k hn hκ ds x tm H hG h; obtain ⟨m, hm⟩ := zzb3 h
  have it : ∀ (m : Nat) ds x tm H, G x -> (Nat.rec (motive := fun _ => Tm -> zaf -> zbt) (fun _ _ => none) (fun _ r tm H => den C φ f N c ⟨r, κ.exit, κ.ret⟩ (keep live.kept tm) H) m : Tm -> zaf -> zbt) tm H = some x -> Fin C E ds (.next ⟨⟨.inLoop (zck c) :: k, tm, RR f N ro ds fl⟩, acs, H⟩) x := by
   intro m; induction m with
   | zero => simp_all
   | succ m ihm =>
    intro ds x tm H hG h; refine zva (live := live.kept) rfl (.step ?_)
    rw [zbx rfl]; exact ih ⟨_, κ.exit, κ.ret⟩ _ hn ⟨ihm, fun ds x i tm H hG h => zso hE (fun _ e => by cases e) (hκ.exit _ _ _ _ _ hG h), hκ.ret⟩ _ _ _ _ hG h
  exact zoc hE (t1 := .code (zck (.loop live c)) :: k) rfl (t2 := .inLoop (zck c) :: k) (fun _ _ => rfl) (it m _ _ tm H hG hm)
 | exit id => exact fun κ k _ hκ ds x tm H hG h => hκ.exit _ _ _ _ _ hG h
 | ret => exact fun κ k _ hκ ds x tm H hG h => hκ.ret _ _ _ _ hG h k
 | cut live c ih => exact fun κ k hn hκ ds x tm H hG h => zva rfl (ih κ k hn hκ _ _ _ _ hG h)
 | range i pl fo ps as c ih =>
  intro κ k hn hκ ds x tm H hG h; rcases hn with rfl | e
  ·exact zze hφ hE hκ h
  ·cases e
end
end Go.Am
namespace Go.Am
open Go Go.RowKit
def z8j (C : Ctx) (fn : Func) (tm : Tm) (H : zaf) : zbt := ob (zfe C H tm fn.results.toList) fun l => some (⟨zmw l, false⟩, H)
def zyt (C : Ctx) (fn : Func) : Kt := ⟨z8j C fn, fun _ _ _ => none, z8j C fn⟩
def zix (ops : List Oper) : Bool := zfh (fun o => match o.op with | .move _ => za4 o.guard | .assign _ => za4 o.guard | .alloc _ => za4 o.guard | .store _ _ _ => za4 o.guard | _ => false) ops
def zwk (l : List (Nat × Array Oper)) : Bool := match l with | [] => false | x :: r => zfh (fun x => zix x.2.toList) (x :: r)
def zns (c : zbb) : Option z3q := match zcs c with | [q] => some q | _ => none
def rdOk (r : zj1) (q : z3q) : Prop := r.assign = asC q.as /\ r.body = zck q.c /\ r.params = q.ps.toList /\ LoopState.tag r.state = 0 /\ zwk q.as = true /\ zcs q.c = []
def z3k (r : zj1) : zj1 := ⟨.busy, r.pending, r.fn, r.n, r.tm, r.params, r.assign, r.body, r.defers⟩
def zlf (b : Bool) (r : zj1) : zj1 := ⟨if b then .ready else .done, if b then none else some .ret, r.fn, r.n, r.tm, r.params, r.assign, r.body, r.defers⟩
def rdK : Kt := ⟨fun _ H => some (⟨.bool true, false⟩, H), fun _ _ _ => none, fun _ H => some (⟨.bool false, false⟩, H)⟩
def zzip (C : Ctx) (φ : Ora) (fn n : Nat) (q : z3q) (tm : Tm) (H : zaf) : zbt := den C φ fn n (asA q.c q.as) rdK tm H
def zrs (C : Ctx) (A : Tr zbb) (φ : Ora) (l : Nat) (args : List zab) (H : zaf) : zbt :=
 ob (zdr H l) fun r => ob (ze1 r.n r.params args r.tm) fun tm => ob (A.get r.fn) fun c => ob (zns c) fun q => @ite _ (rdOk r q /\ l < H.next) (Classical.propDecidable _)
  (ob (zzip C φ r.fn r.n q tm (setBlk H l (.loop (z3k r)))) fun x => zaj (!x.1.p) (ob (zdr x.2 l) fun r2 => ob x.1.v.asBool fun b => some (⟨.bool b, false⟩, setBlk x.2 l (.loop (zlf b r2))))) none
def regO (c : zbb) : Option (Nat × Array Oper) := match c with
 | .region id ops false => some (id, ops)
 | .cut _ (.region id ops false) => some (id, ops)
 | _ => none
structure z09 where
 i5 : Nat
 o5 : Array Oper
 d : Nat
 cl : Nat
 bs : List Operand
 i6 : Nat
 o6 : Array Oper
def zznx (l : List Oper) : Option (Nat × Nat × List Operand) := match l with
 | [⟨some d, .makeFunc (.func cl) as bs, _, _, _, none⟩, ⟨none, .defer cc, _, _, _, none⟩] => (match as.toList, cc.callee, cc.args.toList with
  | [], .value (.tmp e), [] => bif Nat.beq d e then some (d, cl, bs.toList) else none
  | _, _, _ => none)
 | _ => none
def zzf0 (c : zbb) : Option z09 := match c with
 | .seq a (.seq b .ret) => ob (regO a) fun u => ob (regO b) fun v => ob (zznx u.2.toList) fun q => some ⟨u.1, u.2, q.1, q.2.1, q.2.2, v.1, v.2⟩
 | _ => none
def zk6 (c : zbb) : Option (List zbb × z09) :=
 zbb.rec (motive := fun _ => Option (List zbb × z09)) none (fun _ _ _ => none)
  (fun a b _ g => match zzf0 (.seq a b) with | some q => some ([], q) | none => ob g fun p => some (a :: p.1, p.2))
  (fun _ _ _ _ _ => none) (fun _ _ _ => none) (fun _ _ _ => none) (fun _ => none) none (fun _ _ _ => none) (fun _ _ _ _ _ _ _ => none) c
def zzfd (l : List zbb) : zbb := List.rec (motive := fun _ => zbb) .skip (fun a _ g => .seq a g) l
def recO (l : List Oper) : Option (Nat × Nat) := match l with
 | [⟨some d, .call cc, _, _, _, none⟩, ⟨some e, .assign (.tmp f), _, _, _, none⟩] => (match cc.callee with
  | .builtin .recover => bif Nat.beq d f then some (d, e) else none
  | _ => none)
 | _ => none
structure ClQ where
 i : Nat
 o : Array Oper
 d : Nat
 e : Nat
 c : zbb
def zzn6 (c : zbb) : Option ClQ := match c with
 | .seq a b => ob (regO a) fun u => ob (recO u.2.toList) fun p => some ⟨u.1, u.2, p.1, p.2, b⟩
 | _ => none
def clTm (n : Nat) (q : ClQ) (tm : Tm) (v : zab) : Tm := putA n (putA n tm.cut (some q.d) v) (some q.e) v
def zok (C : Ctx) (A : Tr zbb) (φ : Ora) (cl : Nat) (cells : List zab) (v : zab) (H : zaf) : zbt :=
 ob (C.fns.get cl) fun fc => ob (A.get cl) fun cc => ob (zzn6 cc) fun q => zaj (za4 (C.prims.get cl) && Nat.blt q.d fc.ntmps) (ob (zeg C cl cells true) fun g => den C φ cl fc.ntmps q.c (zyt C fc) (clTm fc.ntmps q g.tm v) H)
def zt2 (C : Ctx) (A : Tr zbb) (φ : Ora) (fn : Func) (cl : Nat) (cells : List zab) (v : zab) (tm : Tm) (H : zaf) : zbt :=
 ob (zok C A φ cl cells v H) fun y => zaj (!y.1.p) (z8j C fn tm y.2)
def zzei (l : List ResultVar) (o6 : List Oper) : Bool := zfh (fun r => match r with | .cell a _ => zfh (fun o => match o.dst with | some d => !Nat.beq d a | none => true) o6 | .tmp _ => false) l
def zmx (C : Ctx) (A : Tr zbb) (φ : Ora) (fn : Func) (q : z09) (tm : Tm) (H : zaf) : zbt :=
 zaj (zzei fn.results.toList q.o6.toList && (Nat.ble tm.k q.d && Nat.blt q.d fn.ntmps)) (ob (evs q.bs (.now tm.cut)) fun cells =>
  ob (ztx C φ q.o6 fn.ntmps (fun tm' H' => zt2 C A φ fn q.cl cells .niliface tm' H') q.o6.toList tm.cut H) fun x =>
   Bool.rec (motive := fun _ => zbt) (some x) (zt2 C A φ fn q.cl cells x.1.v tm.cut x.2) x.1.p)
def zzjs (C : Ctx) (A : Tr zbb) (φ : Ora) (fn : Func) (q : z09) : Kt := ⟨zmx C A φ fn q, fun _ _ _ => none, z8j C fn⟩
def zs3 (C : Ctx) (A : Tr zbb) (φ : Ora) (f : Nat) (fn : Func) (c : zbb) (tm : Tm) (H : zaf) : zbt :=
 match zk6 c with
 | none => den C φ f fn.ntmps c (zyt C fn) tm H
 | some p => den C φ f fn.ntmps (zzfd p.1) (zzjs C A φ fn p.2) tm H
def z5i (C : Ctx) (A : Tr zbb) (φ : Ora) (f : Nat) (args : List zab) (H : zaf) : zbt :=
 ob (A.get f) fun c => ob (C.fns.get f) fun fn => ob (zeg C f args false) fun g => zs3 C A φ f fn c g.tm H
def z1t (C : Ctx) (A : Tr zbb) (φ : Ora) : Ora
 | .func f => z5i C A φ f
 | .yld l => zrs C A φ l
def zzjw (C : Ctx) (A : Tr zbb) : Nat -> Ora
 | 0 => fun _ _ _ => none
 | n + 1 => z1t C A (zzjw C A n)
def fnV (C : Ctx) (A : Tr zbb) : Ora := fun f args H => lim fun n => zzjw C A n f args H
section
variable {C : Ctx} {A : Tr zbb}
theorem zgh {φ : Ora} {l : Nat} {args : List zab} {H : zaf} {x : Out × zaf} : zrs C A φ l args H = some x ↔ ∃ r tm c q y r2 b, zdr H l = some r /\ ze1 r.n r.params args r.tm = some tm /\ A.get r.fn = some c /\ zns c = some q /\ (rdOk r q /\ l < H.next) /\ zzip C φ r.fn r.n q tm (setBlk H l (.loop (z3k r))) = some y /\ zdr y.2 l = some r2 /\ y.1 = ⟨.bool b, false⟩ /\ x = (⟨.bool b, false⟩, setBlk y.2 l (.loop (zlf b r2))) := by
 have out : ∀ (o : Out) (b : Bool), o = ⟨.bool b, false⟩ ↔ o.v = .bool b /\ o.p = false := fun o b => by cases o; simp
 unfold zrs; simp only [out]; grind [zac, zez, zae]
theorem z7u {φ φ' : Ora} (h : OLe φ φ') {cl : Nat} {cells : List zab} {v : zab} {H : zaf} {x : Out × zaf} (hx : zok C A φ cl cells v H = some x) : zok C A φ' cl cells v H = some x := by
 unfold zok at hx ⊢
 simp only [zac, zae] at hx ⊢
 obtain ⟨fc, h1, cc, h2, q, h3, h4, g, h5, h6⟩ := hx
 exact ⟨fc, h1, cc, h2, q, h3, h4, g, h5, zhl h _ _ _ (KLe.refl _) _ _ _ h6⟩
theorem zln {φ φ' : Ora} (h : OLe φ φ') {fn : Func} {cl : Nat} {cells : List zab} {v : zab} {tm : Tm} {H : zaf} {x : Out × zaf} (hx : zt2 C A φ fn cl cells v tm H = some x) : zt2 C A φ' fn cl cells v tm H = some x := by
 unfold zt2 at hx ⊢
 rw [zac] at hx ⊢
 obtain ⟨y, h1, h2⟩ := hx
 exact ⟨y, z7u h h1, h2⟩
theorem zud {φ φ' : Ora} (h : OLe φ φ') {fn : Func} {q : z09} : Le2 (zmx C A φ fn q) (zmx C A φ' fn q) := by
 intro tm H x hx; unfold zmx at hx ⊢
 simp only [zae, zac] at hx ⊢
 obtain ⟨h1, cells, h2, y, h3, h4⟩ := hx
 refine ⟨h1, cells, h2, y, zlb h (fun tm H x hx => zln h hx) _ _ _ _ h3, ?_⟩
 cases hp : y.1.p with
 | false => rw [hp] at h4; exact h4
 | true => rw [hp] at h4; exact zln h h4
theorem z71 {φ φ' : Ora} (h : OLe φ φ') {f : Nat} {fn : Func} {c : zbb} : Le2 (zs3 C A φ f fn c) (zs3 C A φ' f fn c) := by
 intro tm H x hx; unfold zs3 at hx ⊢
 split at hx
 ·exact zhl h c _ _ (KLe.refl _) _ _ _ hx
 ·exact zhl h _ (zzjs C A φ fn _) (zzjs C A φ' fn _) ⟨zud h, fun _ _ _ _ h => h, fun _ _ _ h => h⟩ _ _ _ hx
theorem z5o {φs : Nat -> Ora} {φ : Ora} (h : z8k φs φ) {fn : Func} {cl : Nat} {cells : List zab} {v : zab} : zyd (fun n => zt2 C A (φs n) fn cl cells v) (zt2 C A φ fn cl cells v) := by
 refine ⟨fun n tm H x hx => zln (h.up n) hx, fun tm H x hx => ?_⟩
 unfold zt2 at hx; rw [zac] at hx; obtain ⟨y, h1, h2⟩ := hx
 unfold zok at h1; simp only [zac, zae] at h1; obtain ⟨fc, g1, cc, g2, q, g3, g4, g, g5, g6⟩ := h1
 have sup : zzk5 (fun _ => zyt C fc) (zyt C fc) := ⟨⟨fun _ _ _ _ h => h, fun _ _ _ h => ⟨0, h⟩⟩, fun i => ⟨fun _ _ _ _ h => h, fun _ _ _ h => ⟨0, h⟩⟩, ⟨fun _ _ _ _ h => h, fun _ _ _ h => ⟨0, h⟩⟩⟩
 obtain ⟨n, hn⟩ := (zsu h q.c _ _ sup).ex _ _ _ g6
 refine ⟨n, ?_⟩
 show zt2 C A (φs n) fn cl cells v tm H = some x
 unfold zt2 zok; simp only [zac, zae]; rw [zae] at h2; exact ⟨y, ⟨fc, g1, cc, g2, q, g3, g4, g, g5, hn⟩, h2⟩
theorem z9a {φs : Nat -> Ora} {φ : Ora} (h : z8k φs φ) {fn : Func} {q : z09} : zyd (fun n => zmx C A (φs n) fn q) (zmx C A φ fn q) := by
 refine ⟨fun n => zud (h.up n), fun tm H x hx => ?_⟩
 unfold zmx at hx; simp only [zae, zac] at hx; obtain ⟨h1, cells, h2, y, h3, h4⟩ := hx
 obtain ⟨n, hn⟩ := (z4r h (z5o h) _).ex _ _ _ h3
 have key : ∀ m, n <= m -> ztx C (φs m) q.o6 fn.ntmps (fun tm' H' => zt2 C A (φs m) fn q.cl cells .niliface tm' H') q.o6.toList tm.cut H = some y :=
  fun m hm => zlb (h.le hm) (fun tm H x hx => zln (h.le hm) hx) _ _ _ _ hn
 cases hp : y.1.p with
 | false =>
  rw [hp] at h4; refine ⟨n, ?_⟩
  show zmx C A (φs n) fn q tm H = some x
  unfold zmx; simp only [zae, zac]; exact ⟨h1, cells, h2, y, hn, by rw [hp]; exact h4⟩
 | true =>
  rw [hp] at h4; obtain ⟨m, hm⟩ := (z5o h).ex _ _ _ h4
  refine ⟨max n m, ?_⟩
  show zmx C A (φs (max n m)) fn q tm H = some x
  unfold zmx; simp only [zae, zac]; exact ⟨h1, cells, h2, y, key _ (Nat.le_max_left _ _), by rw [hp]; exact zln (h.le (Nat.le_max_right _ _)) hm⟩
theorem zzen {φs : Nat -> Ora} {φ : Ora} (h : z8k φs φ) {f : Nat} {fn : Func} {c : zbb} {tm : Tm} {H : zaf} {x : Out × zaf} (hx : zs3 C A φ f fn c tm H = some x) : ∃ n, zs3 C A (φs n) f fn c tm H = some x := by
 unfold zs3 at hx ⊢
 split at hx
 ·have sup : zzk5 (fun _ => zyt C fn) (zyt C fn) := ⟨⟨fun _ _ _ _ h => h, fun _ _ _ h => ⟨0, h⟩⟩, fun i => ⟨fun _ _ _ _ h => h, fun _ _ _ h => ⟨0, h⟩⟩, ⟨fun _ _ _ _ h => h, fun _ _ _ h => ⟨0, h⟩⟩⟩
  exact (zsu h c _ _ sup).ex _ _ _ hx
 ·rename_i p _
  exact (zsu h (zzfd p.1) (fun n => zzjs C A (φs n) fn p.2) (zzjs C A φ fn p.2) ⟨z9a h, fun i => ⟨fun _ _ _ _ h => h, fun _ _ _ h => ⟨0, h⟩⟩, ⟨fun _ _ _ _ h => h, fun _ _ _ h => ⟨0, h⟩⟩⟩).ex _ _ _ hx
theorem zui {φ φ' : Ora} (h : OLe φ φ') : OLe (z1t C A φ) (z1t C A φ') := by
 intro f args H x hx
 cases f with
 | yld l =>
  have hx : zrs C A φ l args H = some x := hx
  obtain ⟨r, tm, c, q, y, r2, b, h1, h2, h3, h4, hq, h5, h6, h7, h8⟩ := zgh.1 hx
  exact zgh.2 ⟨r, tm, c, q, y, r2, b, h1, h2, h3, h4, hq, zhl h _ _ _ (KLe.refl _) _ _ _ h5, h6, h7, h8⟩
 | func f =>
 have hx : z5i C A φ f args H = some x := hx
 show z5i C A φ' f args H = some x
 unfold z5i at hx ⊢
 rw [zac] at hx ⊢
 obtain ⟨c, h1, hx⟩ := hx
 refine ⟨c, h1, ?_⟩
 rw [zac] at hx ⊢
 obtain ⟨fn, h2, hx⟩ := hx
 refine ⟨fn, h2, ?_⟩
 rw [zac] at hx ⊢
 obtain ⟨g, h3, hx⟩ := hx
 exact ⟨g, h3, z71 h _ _ _ hx⟩
theorem zzbo : ∀ n, OLe (zzjw C A n) (zzjw C A (n + 1)) := by
 intro n; induction n with
 | zero => intro f args H x h; cases h
 | succ n ih => exact zui ih
theorem zkh {f : AFn} {args : List zab} {H : zaf} {x : Out × zaf} : fnV C A f args H = some x ↔ ∃ n, zzjw C A n f args H = some x :=
 zqv fun n _ hy => zzbo n _ _ _ _ hy
theorem zzdf : z8k (zzjw C A) (fnV C A) := ⟨zzbo, fun _ _ _ _ h => zkh.1 h⟩
theorem zzdh (f : AFn) (args : List zab) (H : zaf) : fnV C A f args H = z1t C A (fnV C A) f args H := by
 have key : ∀ x, fnV C A f args H = some x ↔ z1t C A (fnV C A) f args H = some x := by
  intro x; constructor
  ·intro h
   obtain ⟨n, hn⟩ := zkh.1 h
   cases n with
   | zero => cases hn
   | succ n => exact zui (fun f a H y hy => zkh.2 ⟨n, hy⟩) _ _ _ _ hn
  ·intro h
   cases f with
   | yld l =>
    have h : zrs C A (fnV C A) l args H = some x := h
    obtain ⟨r, tm, c, q, y, r2, b, h1, h2, h3, h4, hq, h5, h6, h7, h8⟩ := zgh.1 h
    have sup : zzk5 (fun _ => rdK) rdK := ⟨⟨fun _ _ _ _ h => h, fun _ _ _ h => ⟨0, h⟩⟩, fun i => ⟨fun _ _ _ _ h => h, fun _ _ _ h => ⟨0, h⟩⟩, ⟨fun _ _ _ _ h => h, fun _ _ _ h => ⟨0, h⟩⟩⟩
    obtain ⟨n, hn⟩ := (zsu zzdf _ _ _ sup).ex _ _ _ h5
    exact zkh.2 ⟨n + 1, zgh.2 ⟨r, tm, c, q, y, r2, b, h1, h2, h3, h4, hq, hn, h6, h7, h8⟩⟩
   | func f =>
   have h : z5i C A (fnV C A) f args H = some x := h
   unfold z5i at h; rw [zac] at h; obtain ⟨c, h1, h⟩ := h
   rw [zac] at h; obtain ⟨fn, h2, h⟩ := h
   rw [zac] at h; obtain ⟨g, h3, h⟩ := h
   obtain ⟨n, hn⟩ := zzen zzdf h
   refine zkh.2 ⟨n + 1, ?_⟩
   show z5i C A (zzjw C A n) f args H = some x
   grind [z5i, zad]
 cases h : fnV C A f args H with
 | some x => grind
 | none =>
  cases h2 : z1t C A (fnV C A) f args H with
  | none => rfl
  | some x => simp_all
def zii (C : Ctx) (A : Tr zbb) : Prop := ∀ f c, A.get f = some c -> ∃ fn, C.fns.get f = some fn /\ fn.body = some (zck c)
theorem z25 {f : Nat} {args : List zab} {g : zap} (h : zeg C f args false = some g) : ∃ fn c, C.fns.get f = some fn /\ fn.body = some c /\ g.todo = [.code c] /\ g.R = ⟨f, fn.ntmps, [], .run, false, none⟩ := by
 grind [zeg, zac, zae]
theorem zly {α β : Type} {f g : α -> Option β} : ∀ (l : List α) {r : List β}, (∀ a b, f a = some b -> g a = some b) -> zel f l = some r -> zel g l = some r := by
 intro l; induction l with
 | nil => intro r _ h; exact h
 | cons a l ih =>
  grind [zcq, zac]
def znb (C : Ctx) (f : Nat) (acs : List zap) (fl : Bool := false) : zzfb := fun ds o x => ∃ fr', o = .next ⟨fr', acs, x.2⟩ /\ zmc C f ds fr' x.2 x.1 fl
theorem z12 {H : zaf} {tm : Tm} {r : Nat} {d e : Option (List zlr)} (hr : H.t.get r = some (.deferred d)) : ∀ (l : List ResultVar) vs, zfe C H tm l = some vs -> zfe C (setBlk H r (.deferred e)) tm l = some vs := by
 intro l vs h; refine zly l (fun rv v h => ?_) h
 cases rv with
 | tmp t => exact h
 | cell a t =>
  have h : (ob (ob (tm.get a) zab.asPtr) fun p => ob (C.tys.get t) fun ty => ob (zax H p.1) fun c => znx ty c.1 p.2) = some v := h
  show (ob (ob (tm.get a) zab.asPtr) fun p => ob (C.tys.get t) fun ty => ob (zax (setBlk H r (.deferred e)) p.1) fun c => znx ty c.1 p.2) = some v
  simp only [zac] at h ⊢
  obtain ⟨p, hp, ty, ht, c, hc, hv⟩ := h
  refine ⟨p, hp, ty, ht, c, ?_, hv⟩
  unfold zax at hc ⊢
  rw [zac] at hc ⊢
  obtain ⟨y, h1, h2⟩ := hc
  refine ⟨y, ?_, h2⟩
  show (H.t.set r (.deferred e)).get p.1 = some y
  rw [Tr.get_set, yaa fun e => by rw [e, hr] at h1; cases h1; cases h2]
  exact h1
theorem zmc.ret {f : Nat} {ds : List zlr} {fr : zap} {H : zaf} {o : Out} {fl : Bool} (h : zmc C f ds fr H o fl) (hp : o.p = false) : zko C f ds fr H o.v fl := by
 unfold zmc at h; rwa [hp, yaa (by simp)] at h
theorem zmc.of {f : Nat} {ds : List zlr} {fr : zap} {H : zaf} {o : Out} {fl : Bool} (h : zko C f ds fr H o.v fl) (hp : o.p = false) : zmc C f ds fr H o fl := by
 unfold zmc; rwa [hp, yaa (by simp)]
theorem zqz {f N : Nat} {acs : List zap} {fl : Bool} (hfn : ∃ fn, C.fns.get f = some fn) : z8d C (znb C f acs fl) (fun _ => True) f N none acs fl := by
 refine ⟨?_, fun _ _ => trivial, ?_, fun ds todo tm x _ hp => ⟨_, rfl, by unfold zmc; rw [yab hp]; exact ⟨⟨rfl, rfl, rfl, rfl⟩, hfn⟩⟩⟩
 ·rintro ds todo tm H x ⟨fr', h1, h2⟩
  cases h1; unfold zmc at h2; split at h2
  ·have := h2.1.1; cases this
  ·have := h2.1; cases this
 ·rintro _ r ds o x hp ⟨fr', rfl, hE⟩ hd
  obtain ⟨h1, h2, h3, h4, fn, l, h5, h6, h7⟩ := hE.ret hp
  obtain ⟨todo, tm, ffn, n, defers, mode, deferred, round⟩ := fr'
  simp only at h1 h2 h3 h4 h6
  subst h1 h2 h3 h4
  have hr : x.2.t.get r = some (.deferred (some [])) := by
   unfold zf4 at hd; rw [zae, zac] at hd; obtain ⟨_, y, e1, e2⟩ := hd
   cases y <;> cases e2
   exact e1
  refine ⟨_, .step ?_, ⟨⟨todo, tm, ⟨ffn, n, ds, .returning, deferred, round⟩⟩, rfl, zmc.of ⟨rfl, rfl, rfl, rfl, fn, l, h5, z12 hr _ _ h6, h7⟩ hp⟩⟩
  show zho C (zrh C ⟨none, r, []⟩ ds ⟨todo, tm, ⟨ffn, n, ⟨none, r, []⟩ :: ds, .returning, deferred, round⟩⟩ acs x.2) _
  unfold zrh; simp only [hd, zad]; exact .refl _
theorem zof {f : Nat} {fn : Func} {acs : List zap} {x : Out × zaf} {ds : List zlr} {fl : Bool} (hf : C.fns.get f = some fn) {tm : Tm} {H : zaf} (h : z8j C fn tm H = some x) {todo : List zcj} {N : Nat}
  (hs : zod C todo tm (RR f N none ds fl) acs H = .next ⟨zj5 ⟨todo, tm, RR f N none ds fl⟩ .returning, acs, H⟩) : Fin C (znb C f acs fl) ds (.next ⟨⟨todo, tm, RR f N none ds fl⟩, acs, H⟩) x := by
 unfold z8j at h; rw [zac] at h; obtain ⟨l, h1, h2⟩ := h
 cases h2; refine .step ?_
 rw [zbx rfl, hs]; exact ⟨_, .refl _, _, rfl, zmc.of ⟨rfl, rfl, rfl, rfl, fn, l, hf, h1, rfl⟩ rfl⟩
def RdG (l : Nat) (c : zap) : Out × zaf -> Prop := fun x => ∃ b r2 c', x.1 = ⟨.bool b, false⟩ /\ zdr x.2 l = some r2 /\ zb4 c (.bool b) = some c'
def RdEnd (l : Nat) (c : zap) (acs : List zap) : zzfb := fun _ o x => ∃ b r2 c', x.1 = ⟨.bool b, false⟩ /\ zdr x.2 l = some r2 /\ zb4 c (.bool b) = some c' /\ o = .next ⟨c', acs, setBlk x.2 l (.loop (zlf b r2))⟩
theorem zzaj {l b : Nat} (h : b ≠ l) (t : Tr zav) (x y : zav) : (t.set l x).set b y = (t.set b y).set l x := Tr.set_comm t _ _ _ _ (fun e => h e.symm)
theorem z74 {C : Ctx} {φ : Ora} {all : Array Oper} {n : Nat} {κn : Tm -> zaf -> zbt} {l0 : Nat} {r0 r1 : zj1} : ∀ (l : List Oper) (tm : Tm) (H : zaf) (x : Out × zaf), zix l = true -> l0 < H.next -> H.t.get l0 = some (.loop r0) -> ztx C φ all n κn l tm (setBlk H l0 (.loop r1)) = some x →
  ∃ tm' H', κn tm' (setBlk H' l0 (.loop r1)) = some x /\ l0 < H'.next /\ H'.t.get l0 = some (.loop r0) /\ ∀ (k : List zcj) (R : zgz) (cs : List zap), R.n = n -> zfb C all k R cs l tm H = xGo k tm' R cs H' := by
 intro l; induction l with
 | nil => intro tm H x _ h1 h2 h; exact ⟨tm, H, h, h1, h2, fun _ _ _ _ => rfl⟩
 | cons o l ih =>
  intro tm H x hp hl hg h; have hp : (bif (match o.op with | .move _ => za4 o.guard | .assign _ => za4 o.guard | .alloc _ => za4 o.guard | .store _ _ _ => za4 o.guard | _ => false) then zix l else false) = true := hp
  have hp1 : (match o.op with | .move _ => za4 o.guard | .assign _ => za4 o.guard | .alloc _ => za4 o.guard | .store _ _ _ => za4 o.guard | _ => false) = true := by
   simp_all
  rw [hp1] at hp; have hp : zix l = true := hp
  have hw : zbi o.guard all tm = some true := by
   have : za4 o.guard = true := by cases ho : o.op <;> rw [ho] at hp1 <;> first | exact hp1 | (cases hp1; done)
   cases hx : o.guard with
   | none => rfl
   | some g => rw [hx] at this; cases this
  rw [zgw, hw, zad, yab rfl] at h; have key : ∃ v H', (aop o.op).f C (.now tm) (setBlk H l0 (.loop r1)) = .val v (setBlk H' l0 (.loop r1)) /\ (aop o.op).f C (.now tm) H = .val v H' /\ l0 < H'.next /\ H'.t.get l0 = some (.loop r0) := by
   cases ho : o.op <;> rw [ho] at hp1 h <;> try (cases hp1; done)
   case move u =>
    have e : ∀ H, (aop (.move u)).f C (.now tm) H = lv (zkw u) C (.now tm) H := fun _ => rfl
    rw [e] at h
    cases hv : ev u (.now tm) with
    | none =>
     have : lv (zkw u) C (.now tm) (setBlk H l0 (.loop r1)) = .fail := by unfold lv zkw; rw [hv]
     rw [this] at h; cases h
    | some v => exact ⟨v, H, by rw [e]; unfold lv zkw; rw [hv], by rw [e]; unfold lv zkw; rw [hv], hl, hg⟩
   case assign u =>
    have e : ∀ H, (aop (.assign u)).f C (.now tm) H = lv (zkw u) C (.now tm) H := fun _ => rfl
    rw [e] at h
    cases hv : ev u (.now tm) with
    | none =>
     have : lv (zkw u) C (.now tm) (setBlk H l0 (.loop r1)) = .fail := by unfold lv zkw; rw [hv]
     rw [this] at h; cases h
    | some v => exact ⟨v, H, by rw [e]; unfold lv zkw; rw [hv], by rw [e]; unfold lv zkw; rw [hv], hl, hg⟩
   case alloc t =>
    have e : ∀ H, (aop (.alloc t)).f C (.now tm) H = ztm (ob (C.tys.get t) fun ty => some (.ptr H.next 0, za7 H ty.zero (zhz C t))) := fun _ => rfl
    rw [e] at h
    cases ht : C.tys.get t with
    | none => rw [ht] at h; cases h
    | some ty =>
     refine ⟨.ptr H.next 0, za7 H ty.zero (zhz C t), ?_, by rw [e, ht]; rfl, Nat.lt_succ_of_lt hl, ?_⟩
     ·rw [e, ht]
      show zqb.val (.ptr H.next 0) (za7 (setBlk H l0 (.loop r1)) ty.zero (zhz C t)) = _
      congr 1
      show (⟨H.next + 1, (H.t.set l0 _).set H.next _⟩ : zaf) = ⟨H.next + 1, (H.t.set H.next _).set l0 _⟩
      rw [zzaj (by omega)]
     ·show (H.t.set H.next _).get l0 = _
      rw [Tr.get_set, yaa (by omega), hg]
   case store t a u =>
    have e : ∀ H, (aop (.store t a u)).f C (.now tm) H = ztm (ob (C.tys.get t) fun ty => ob (ev a (.now tm)) fun a => ob a.asPtr fun p => ob (ev u (.now tm)) fun v => zaj (Nat.beq (zbf v.cells) ty.size) (ob (zdw C H p.1 p.2 v.cells) fun H' => some (zbj, H'))) := fun _ => rfl
    rw [e] at h
    cases hs : (ob (C.tys.get t) fun ty => ob (ev a (.now tm)) fun a => ob a.asPtr fun p => ob (ev u (.now tm)) fun v => zaj (Nat.beq (zbf v.cells) ty.size) (ob (zdw C (setBlk H l0 (.loop r1)) p.1 p.2 v.cells) fun H' => some (zbj, H'))) with
    | none => rw [hs] at h; cases h
    | some q =>
     have hs0 := hs
     simp only [zac, zae] at hs; obtain ⟨ty, h1, a', h2, p, h3, v, h4, h5, H1, h6, h7⟩ := hs
     unfold zdw at h6; simp only [zac, zae] at h6; obtain ⟨g1, c, g2, g3, g4⟩ := h6
     have hne : p.1 ≠ l0 := by
      intro e; unfold zax at g2; have : (setBlk H l0 (.loop r1)).t.get p.1 = some (.loop r1) := by
       show (H.t.set l0 _).get p.1 = _
       rw [Tr.get_set, yab e]
      rw [this, zad] at g2; cases g2
     have g2' : zax H p.1 = some c := by
      unfold zax at g2 ⊢
      have : (setBlk H l0 (.loop r1)).t.get p.1 = H.t.get p.1 := by
       show (H.t.set l0 _).get p.1 = _
       rw [Tr.get_set, yaa hne]
      rw [this] at g2; exact g2
     refine ⟨zbj, setBlk H p.1 (.cells (c.1.setMany v.cells p.2) c.2.1 c.2.2), ?_, ?_, hl, ?_⟩
     ·rw [e, hs0, <- h7, <- yci g4]
      show zqb.val zbj (setBlk (setBlk H l0 (.loop r1)) p.1 _) = _
      congr 1
      show (⟨H.next, (H.t.set l0 _).set p.1 _⟩ : zaf) = ⟨H.next, (H.t.set p.1 _).set l0 _⟩
      rw [zzaj hne]
     ·rw [e, h1, zad, h2, zad, h3, zad, h4, zad, h5]
      unfold zdw; rw [g1, g2']; simp only [zad]; rw [g3]; rfl
     ·show (H.t.set p.1 _).get l0 = _
      rw [Tr.get_set, yaa (fun e => hne e.symm), hg]
  obtain ⟨v, H', k1, k2, k3, k4⟩ := key
  rw [k1] at h; have h : zim C o.type v (fun v => ztx C φ all n κn l (putA n tm o.dst v) (setBlk H' l0 (.loop r1))) = some x := h
  rw [zcp] at h; obtain ⟨tm', H2, m1, m2, m3, m4⟩ := ih _ H' x hp k3 k4 h.2
  refine ⟨tm', H2, m1, m2, m3, fun k R cs hR => ?_⟩
  rw [zeu, hw]; simp only [if_true]; rw [k2]; simp only [zqb.asVal]; rw [hR]; exact m4 k R cs hR
theorem z73 {C : Ctx} {φ : Ora} {fn n : Nat} {κ : Kt} {c : zbb} {l0 : Nat} {r0 r1 : zj1} : ∀ (as : List (Nat × Array Oper)) (tm : Tm) (H : zaf) (x : Out × zaf), zwk as = true -> l0 < H.next -> H.t.get l0 = some (.loop r0) -> den C φ fn n (asA c as) κ tm (setBlk H l0 (.loop r1)) = some x →
  ∃ tm' H', den C φ fn n c κ tm' (setBlk H' l0 (.loop r1)) = some x /\ H'.t.get l0 = some (.loop r0) /\ ∀ (k : List zcj) (R : zgz) (cs : List zap), R.n = n -> R.mode.running = true -> zho C (.next ⟨⟨.code (asC as) :: k, tm, R⟩, cs, H⟩) (.next ⟨⟨k, tm', R⟩, cs, H'⟩) := by
 intro as; induction as with
 | nil => intro _ _ _ h; cases h
 | cons z as ih =>
  intro tm H x hp hl hg h; have hp : (bif zix z.2.toList then zfh (fun x => zix x.2.toList) as else false) = true := hp
  have hp1 : zix z.2.toList = true := by simp_all
  have h : ztx C φ z.2 n (den C φ fn n (asA c as) κ) z.2.toList tm.cut (setBlk H l0 (.loop r1)) = some x := h
  obtain ⟨tm1, H1, h1, h2, h3, h4⟩ := z74 _ _ _ _ hp1 hl hg h
  cases as with
  | nil =>
   refine ⟨tm1, H1, h1, h3, fun k R cs hR hm => .step ?_⟩
   rw [zbx hm]; show zho C (zfb C z.2 k R cs z.2.toList tm.cut H) _
   rw [h4 _ _ _ hR]; exact .refl _
  | cons w as =>
   have hp2 : zwk (w :: as) = true := by
    show zfh (fun x => zix x.2.toList) (w :: as) = true
    simp_all
   obtain ⟨tm2, H2, g1, g2, g3⟩ := ih tm1 H1 x hp2 h2 h3 h1
   refine ⟨tm2, H2, g1, g2, fun k R cs hR hm => .step ?_⟩
   rw [zbx hm]; show zho C (zfb C z.2 (.code (asC (w :: as)) :: k) R cs z.2.toList tm.cut H) _
   rw [h4 _ _ _ hR]; exact g3 _ _ _ hR hm
theorem zy8 {φ : Ora} (hφ : zih C φ) {l : Nat} {args : List zab} {H : zaf} {x : Out × zaf} (h : zrs C A φ l args H = some x) :
  ∃ r tm, zdr H l = some r /\ ze1 r.n r.params args r.tm = some tm /\ x.1.p = false /\ ∀ c acs c', zb4 c x.1.v = some c' -> zho C (.next ⟨z11 r l tm, c :: acs, H⟩) (.next ⟨c', acs, x.2⟩) := by
 obtain ⟨r, tm, cc, q, y, r2, b, h1, h2, h3, h4, ⟨⟨q1, q2, q3, q4, q5, q6⟩, hlt⟩, h5, h6, h7, rfl⟩ := zgh.1 h
 refine ⟨r, tm, h1, h2, rfl, fun c acs c' hc => ?_⟩
 have hg : H.t.get l = some (.loop r) := by
  unfold zdr at h1; rw [zae, zac] at h1; obtain ⟨_, y, e1, e2⟩ := h1
  cases y <;> cases e2
  exact e1
 have h256 : 256 <= l := by
  unfold zdr at h1; rw [zae] at h1; exact zg3.1 h1.1
 have h5 : den C φ r.fn r.n (asA q.c q.as) rdK tm (setBlk H l (.loop (z3k r))) = some y := h5
 obtain ⟨tm', H', h8, hg', h9⟩ := z73 _ _ _ _ q5 hlt hg h5
 have h1' : zdr H' l = some r := by
  unfold zdr; rw [hg', zad, zg3.2 h256]; rfl
 unfold z11; rw [q1, q2]; refine (h9 [.beginRound, .code (zck q.c)] _ _ rfl rfl).trans (.step ?_)
 show zho C (zod C (.beginRound :: [.code (zck q.c)]) tm' ⟨r.fn, r.n, [], .run, false, some l⟩ (c :: acs) H') _
 have hb : zod C (.beginRound :: [.code (zck q.c)]) tm' ⟨r.fn, r.n, [], .run, false, some l⟩ (c :: acs) H' = .next ⟨⟨[.code (zck q.c)], tm', RR r.fn r.n (some l) []⟩, c :: acs, setBlk H' l (.loop (z3k r))⟩ := by
  show zyj C [.code (zck q.c)] tm' _ (c :: acs) H' = _
  unfold zyj; simp only [zad]; rw [h1', zad, q4]; rfl
 rw [hb]; have hc : zb4 c (.bool b) = some c' := hc
 have hE : z8d C (RdEnd l c acs) (RdG l c) r.fn r.n (some l) (c :: acs) := by
  refine ⟨?_, fun e => (by cases e), fun e => (by cases e), ?_⟩
  ·rintro ds todo tm H x ⟨b, r2, c', _, _, _, e⟩
   simp_all
  ·rintro ds todo tm x ⟨b, r2, c', e, _, _⟩ hp
   rw [e] at hp; cases hp
 have hK : zvp C (RdEnd l c acs) (RdG l c) r.fn r.n (some l) (c :: acs) rdK [] := by
  refine ⟨?_, fun _ _ _ _ _ _ h => (by cases h), ?_⟩
  ·rintro ds x tm H ⟨b, r2, c', g1, g2, g3⟩ h
   cases h
   cases g1
   refine .step ?_
   rw [zbx rfl]; have : zod C [] tm (RR r.fn r.n (some l) ds) (c :: acs) H = .next ⟨c', acs, setBlk H l (.loop (zlf true r2))⟩ := by
    have e0 : zod C [] tm (RR r.fn r.n (some l) ds) (c :: acs) H = zjr none C ⟨[], tm, RR r.fn r.n (some l) ds⟩ (c :: acs) H := rfl
    rw [e0]; unfold zjr; simp only [g2, zad]; show zin (ob (zb4 c (.bool true)) _) 7 = _
    rw [g3]; rfl
   rw [this]; exact ⟨_, .refl _, true, r2, c', rfl, g2, g3, rfl⟩
  ·rintro ds x tm H ⟨b, r2, c', g1, g2, g3⟩ h k'
   cases h
   cases g1
   refine .step ?_
   rw [zbx rfl]; have : zod C (.code .ret :: k') tm (RR r.fn r.n (some l) ds) (c :: acs) H = .next ⟨c', acs, setBlk H l (.loop (zlf false r2))⟩ := by
    have e0 : zod C (.code .ret :: k') tm (RR r.fn r.n (some l) ds) (c :: acs) H = zjr (some .ret) C ⟨.code .ret :: k', tm, RR r.fn r.n (some l) ds⟩ (c :: acs) H := rfl
    rw [e0]; unfold zjr; simp only [g2, zad]; show zin (ob (zb4 c (.bool false)) _) 7 = _
    rw [g3]; rfl
   rw [this]; exact ⟨_, .refl _, false, r2, c', rfl, g2, g3, rfl⟩
 obtain ⟨o', k1, b', r2', c'', k2, k3, k4, rfl⟩ := zoh hφ hE q.c rdK [] (Or.inr q6) hK [] y tm' _ ⟨b, r2, c', h7, h6, hc⟩ h8
 simp_all
theorem zrt {c : zbb} {i : Nat} {o : Array Oper} (h : regO c = some (i, o)) : zck c = .region i o false := by
 cases c with
 | region id ops d => cases d <;> cases h; rfl
 | cut p c =>
  cases c with
  | region id ops d => cases d <;> cases h; rfl
  | _ => cases h
 | _ => cases h
theorem z6g {c : zbb} {q : z09} (h : zzf0 c = some q) : zck c = .seq (.region q.i5 q.o5 false) (.seq (.region q.i6 q.o6 false) .ret) /\ zznx q.o5.toList = some (q.d, q.cl, q.bs) := by
 unfold zzf0 at h; split at h
 ·simp only [zac] at h
  obtain ⟨u, h1, v, h2, r, h3, h4⟩ := h
  cases h4; refine ⟨?_, h3⟩
  show Code.seq (zck _) (.seq (zck _) .ret) = _
  rw [zrt h1, zrt h2]
 ·cases h
def zzdd (l : List zbb) (e : Code) : Code := List.rec (motive := fun _ => Code) e (fun a _ g => .seq (zck a) g) l
theorem z1v : ∀ (c : zbb) {l : List zbb} {q : z09}, zk6 c = some (l, q) -> zck c = zzdd l (.seq (.region q.i5 q.o5 false) (.seq (.region q.i6 q.o6 false) .ret)) /\ zznx q.o5.toList = some (q.d, q.cl, q.bs) := by
 intro c; induction c with
 | seq a b _ ih =>
  intro l q h; have h : (match zzf0 (.seq a b) with | some q => some ([], q) | none => ob (zk6 b) fun p => some (a :: p.1, p.2)) = some (l, q) := h
  split at h
  ·rename_i h1
   cases h; exact z6g h1
  ·rw [zac] at h
   obtain ⟨p, h1, h2⟩ := h
   cases h2; obtain ⟨g1, g2⟩ := ih h1
   exact ⟨by show Code.seq (zck a) (zck b) = _; rw [g1]; rfl, g2⟩
 | _ => intro l q h; cases h
theorem zzeg {c : zbb} {q : ClQ} (h : zzn6 c = some q) : zck c = .seq (.region q.i q.o false) (zck q.c) /\ recO q.o.toList = some (q.d, q.e) := by
 unfold zzn6 at h; split at h
 ·simp only [zac] at h
  obtain ⟨u, h1, v, h2, h3⟩ := h
  cases h3; refine ⟨?_, h2⟩
  show Code.seq (zck _) (zck _) = _
  rw [zrt h1]
 ·cases h
theorem zzd2 {l : List Oper} {d cl : Nat} {bs : List Operand} (h : zznx l = some (d, cl, bs)) : ∃ as' bs' t p a cc t' p' a', l = [⟨some d, .makeFunc (.func cl) as' bs', t, p, a, none⟩, ⟨none, .defer cc, t', p', a', none⟩] /\ as'.toList = [] /\ bs'.toList = bs /\ cc.callee = .value (.tmp d) /\ cc.args.toList = [] := by
 unfold zznx at h; split at h
 ·split at h
  ·rename_i e1 e2 e3
   simp only [zay] at h; split at h
   ·rename_i e
    cases h; exact ⟨_, _, _, _, _, _, _, _, _, rfl, e1, rfl, by rw [e2, zds.1 e], e3⟩
   ·cases h
  ·cases h
 ·cases h
theorem zzaw {l : List Oper} {d e : Nat} (h : recO l = some (d, e)) : ∃ cc t p a t' p' a', l = [⟨some d, .call cc, t, p, a, none⟩, ⟨some e, .assign (.tmp d), t', p', a', none⟩] /\ cc.callee = .builtin .recover := by
 unfold recO at h; split at h
 ·split at h
  ·rename_i e1
   simp only [zay] at h; split at h
   ·rename_i e
    cases h; exact ⟨_, _, _, _, _, _, _, by rw [zds.1 e], e1⟩
   ·cases h
  ·cases h
 ·cases h
theorem z2b {φ : Ora} (hφ : zih C φ) {E : zzfb} {ds : List zlr} {x : Out × zaf} {R : zgz} {acs : List zap} {k : List zcj} {all : Array Oper} {N : Nat} {I : Tm -> Prop} (hR : R.mode.running = true) (hN : R.n = N) (hP : ∀ l tm, I tm -> x.1.p = true -> E ds (.next ⟨zk8 ⟨.ops all l :: k, tm, R⟩ [⟨x.1.v, false⟩], acs, x.2⟩) x) {κn : Tm -> zaf -> zbt} (hκ : ∀ tm H, I tm -> κn tm H = some x -> Fin C E ds (.next ⟨⟨k, tm, R⟩, acs, H⟩) x) :
  ∀ (l : List Oper) (tm : Tm) (H : zaf), (∀ o ∈ l, ∀ tm v, I tm -> I (putA N tm o.dst v)) -> I tm -> ztx C φ all N κn l tm H = some x -> Fin C E ds (zfb C all k R acs l tm H) x := by
 intro l; induction l with
 | nil => exact fun tm H _ hI h => hκ tm H hI h
 | cons o l ih =>
  intro tm H hd hI h; have hd1 := fun tm v h => hd o yby tm v h
  have ih := fun tm H => ih tm H fun o ho => hd o (ybr _ ho)
  rw [zgw, zac] at h; obtain ⟨w, h1, h⟩ := h
  rw [zeu, h1]
  cases w with
  | false =>
   simp only [ybq, if_false] at h ⊢
   rw [hN]; exact ih _ _ (hd1 _ _ hI) h
  | true =>
   rw [yab rfl] at h; simp only []; generalize (aop o.op).f C (.now tm) H = r at h
   cases hv : r.asVal with
   | some p =>
    have e : r = .val p.1 p.2 := by cases r <;> simp [zqb.asVal] at hv; rw [<- hv]
    rw [e] at h; simp only [zj8] at h; rw [zcp] at h; simp only [if_true]; rw [hN]; exact ih _ _ (hd1 _ _ hI) h.2
   | none =>
    simp only [if_true]; refine zo3 hφ h (fun v H' c' hc hK => ?_) (fun v => ⟨⟨.ops all l :: k, putA R.n tm o.dst v, R⟩, by unfold zb4; simp only [hR, cond_true]; rfl⟩) (zk7 hR) (hP _ _ hI)
    unfold zb4 at hc; simp only [hR, cond_true] at hc; have hc : some (⟨.ops all l :: k, putA R.n tm o.dst v, R⟩ : zap) = some c' := hc
    cases hc; refine .step ?_
    rw [zbx hR, hN]; rw [zcp] at hK; exact ih _ _ (hd1 _ _ hI) hK.2
theorem cutK {n : Nat} {tm : Tm} {d : Nat} {v : zab} (h : tm.k <= d) : (putA n tm (some d) v).cut = tm.cut := by
 show (z6q d n tm v).cut = _
 unfold z6q; simp only [zay]; split
 ·unfold Tm.set
  rw [zqk, yaa (by rw [zdk]; omega)]
  rfl
 ·rfl
theorem zzd1 {l : List Oper} {d cl : Nat} {bs : List Operand} {cells : List zab} (h : zznx l = some (d, cl, bs)) {tm : Tm} {H : zaf} (he : evs bs (.now tm) = some cells) {f n : Nat} {ds : List zlr} {acs : List zap} {k : List zcj} {all : Array Oper} (hd : d < n) :
  zfb C all k (RR f n none ds) acs l tm H = .next ⟨⟨.ops all [] :: k, putA n tm (some d) (.func (.func cl) [] cells), RR f n none (⟨some (.func cl), 0, cells⟩ :: ds)⟩, acs, H⟩ := by
 obtain ⟨as', bs', t, p, a, cc, t', p', a', rfl, e1, e2, e3, e4⟩ := zzd2 h
 subst e2; obtain ⟨ca, cargs, caty⟩ := cc
 simp only at e3 e4
 subst e3; have f1 : (aop (.makeFunc (.func cl) as' bs')).f C (.now tm) H = .val (.func (.func cl) [] cells) H := by
  show lv (z66 cl as' bs') C (.now tm) H = _
  unfold lv z66; rw [e1]; show (match ob (some []) _ with | some v => zqb.val v H | none => .fail) = _
  rw [zad, he]; rfl
 have f2 : (aop (.defer ⟨.value (.tmp d), cargs, caty⟩)).f C (.now (putA n tm (some d) (.func (.func cl) [] cells))) H = .defer ⟨some (.func cl), 0, cells⟩ := by
  show zzgr (ob (zeo (.tmp d) cargs (.now (putA n tm (some d) (.func (.func cl) [] cells)))) fun p => some (.defer ⟨some p.1, 0, zfp p.2.1 p.2.2⟩)) = _
  have : zeo (.tmp d) cargs (.now (putA n tm (some d) (.func (.func cl) [] cells))) = some (.func cl, [], cells) := by
   unfold zeo; rw [e4, show ev (.tmp d) (.now (putA n tm (some d) (.func (.func cl) [] cells))) = (putA n tm (some d) (.func (.func cl) [] cells)).get d from rfl, zby, yab ⟨rfl, hd⟩]
   rfl
  rw [this]; rfl
 rw [zeu]; show (match ((aop (.makeFunc (.func cl) as' bs')).f C (.now tm) H).asVal with | some p => _ | none => _) = _
 rw [f1]; show zfb C all k (RR f n none ds) acs _ (putA n tm (some d) (.func (.func cl) [] cells)) H = _
 rw [zeu]; show (match ((aop (.defer ⟨.value (.tmp d), cargs, caty⟩)).f C (.now (putA n tm (some d) (.func (.func cl) [] cells))) H).asVal with | some p => _ | none => _) = _
 rw [f2]; rfl
theorem z16 {φ : Ora} {E : zzfb} {l : List Oper} {d e : Nat} (h : recO l = some (d, e)) {tm : Tm} {H : zaf} {f n : Nat} {ds : List zlr} {acs : List zap} {k : List zcj} {all : Array Oper} {x : Out × zaf} (hd : d < n) {c c' : zap} {v : zab}
  (hc : (c.R.mode = .returning /\ v = .niliface /\ c' = c) \/ (c.R.mode = .panicking [⟨v, false⟩] /\ c' = zj5 c (.panicking [⟨v, true⟩]))) (hf : Fin C E ds (.next ⟨⟨k, putA n (putA n tm (some d) v) (some e) v, RR f n none ds true⟩, c' :: acs, H⟩) x) :
  Fin C E ds (zfb C all k (RR f n none ds true) (c :: acs) l tm H) x := by
 obtain ⟨cc, t, p, a, t', p', a', rfl, e1⟩ := zzaw h
 obtain ⟨ca, cargs, caty⟩ := cc
 simp only at e1
 subst e1; have f1 : (aop (.call ⟨.builtin .recover, cargs, caty⟩)).f C (.now tm) H = .recover := rfl
 rw [zeu]; have f3 : zfb C all k (RR f n none ds true) (c' :: acs) [⟨some e, .assign (.tmp d), t', p', a', none⟩] (putA n tm (some d) v) H = .next ⟨⟨k, putA n (putA n tm (some d) v) (some e) v, RR f n none ds true⟩, c' :: acs, H⟩ := by
  rw [zeu]; show (match ((aop (.assign (.tmp d))).f C (.now (putA n tm (some d) v)) H).asVal with | some p => _ | none => _) = _
  have : (aop (.assign (.tmp d))).f C (.now (putA n tm (some d) v)) H = .val v H := by
   show lv (zkw (.tmp d)) C (.now (putA n tm (some d) v)) H = _
   unfold lv zkw; rw [show ev (.tmp d) (.now (putA n tm (some d) v)) = (putA n tm (some d) v).get d from rfl, zby, yab ⟨rfl, hd⟩]
  rw [this]; rfl
 have f4 : znn C ⟨.ops all (⟨some d, .call ⟨.builtin .recover, cargs, caty⟩, t, p, a, none⟩ :: [⟨some e, .assign (.tmp d), t', p', a', none⟩]) :: k, tm, RR f n none ds true⟩ (c :: acs) H = .next ⟨⟨.ops all [⟨some e, .assign (.tmp d), t', p', a', none⟩] :: k, putA n tm (some d) v, RR f n none ds true⟩, c' :: acs, H⟩ := by
  obtain ⟨ctodo, ctm, cfn, cn, cdefers, cmode, cdef, cround⟩ := c
  rcases hc with ⟨h1, rfl, rfl⟩ | ⟨h1, rfl⟩
  ·simp only at h1
   subst h1; rfl
  ·simp only at h1
   subst h1; rfl
 show Fin C E ds (znn C ⟨.ops all (⟨some d, .call ⟨.builtin .recover, cargs, caty⟩, t, p, a, none⟩ :: [⟨some e, .assign (.tmp d), t', p', a', none⟩]) :: k, tm, RR f n none ds true⟩ (c :: acs) H) x
 rw [f4]; refine .step ?_
 rw [zbx rfl]; show Fin C E ds (zfb C all k (RR f n none ds true) (c' :: acs) [⟨some e, .assign (.tmp d), t', p', a', none⟩] (putA n tm (some d) v) H) x
 rw [f3]; exact hf
theorem z3f (hA : zii C A) {φ : Ora} (hφ : zih C φ) {cl : Nat} {cells : List zab} {v : zab} {H : zaf} {y : Out × zaf} {acs : List zap} {c c' : zap}
  (hc : (c.R.mode = .returning /\ v = .niliface /\ c' = c) \/ (c.R.mode = .panicking [⟨v, false⟩] /\ c' = zj5 c (.panicking [⟨v, true⟩]))) (h : zok C A φ cl cells v H = some y) (hy : y.1.p = false) :
  C.prims.get cl = none /\ ∃ g, zeg C cl cells true = some g /\ ∃ fr', zho C (.next ⟨g, c :: acs, H⟩) (.next ⟨fr', c' :: acs, y.2⟩) /\ zko C cl [] fr' y.2 y.1.v true := by
 unfold zok at h; simp only [zac, zae, ybb] at h; obtain ⟨fc, h1, cc, h2, q, h3, ⟨h4, h5⟩, g, h6, h7⟩ := h
 have hpr : C.prims.get cl = none := by
  cases hx : C.prims.get cl with
  | none => rfl
  | some u => rw [hx] at h4; cases h4
 refine ⟨hpr, g, h6, ?_⟩
 obtain ⟨fc', g1, g2⟩ := hA _ _ h2
 rw [h1] at g1
 cases g1
 obtain ⟨g3, g4⟩ := zzeg h3
 have g5 : g.todo = [.code (zck cc)] /\ g.R = ⟨cl, fc.ntmps, [], .run, true, none⟩ := by
  grind [zeg, zac, zae]
 obtain ⟨gt, gtm, gR⟩ := g
 obtain ⟨rfl, rfl⟩ := g5
 have hK : zvp C (znb C cl (c' :: acs) true) (fun _ => True) cl fc.ntmps none (c' :: acs) (zyt C fc) [] true := ⟨fun ds x tm H _ h => zof h1 h rfl, fun ds x i tm H _ h => (by cases h), fun ds x tm H _ h k' => zof h1 h rfl⟩
 have k1 := zoh hφ (zqz (fl := true) ⟨fc, h1⟩) q.c (zyt C fc) [] (Or.inl rfl) hK [] y _ H trivial h7
 have k2 : Fin C (znb C cl (c' :: acs) true) [] (.next ⟨⟨[.code (zck cc)], gtm, RR cl fc.ntmps none [] true⟩, c :: acs, H⟩) y := by
  refine .step ?_
  rw [zbx rfl, g3]; exact z16 (φ := φ) g4 (zdk.1 h5) hc k1
 obtain ⟨o', k3, fr', rfl, k4⟩ := k2
 exact ⟨fr', k3, k4.ret hy⟩
theorem zzim (hA : zii C A) {φ : Ora} (hφ : zih C φ) {cl : Nat} {cells : List zab} {v : zab} {H : zaf} {y : Out × zaf} {acs : List zap} {c : zap} {ds : List zlr} (hd : c.R.defers = ⟨some (.func cl), 0, cells⟩ :: ds)
  (hm : (c.R.mode = .returning /\ v = .niliface) \/ c.R.mode = .panicking [⟨v, false⟩]) (h : zok C A φ cl cells v H = some y) (hy : y.1.p = false) :
  zho C (.next ⟨c, acs, H⟩) (.next ⟨⟨c.todo, c.tm, ⟨c.R.fn, c.R.n, ds, .returning, c.R.deferred, c.R.roundOf⟩⟩, acs, y.2⟩) := by
 obtain ⟨ctodo, ctm, cfn, cn, cdefers, cmode, cdef, cround⟩ := c
 simp only at hd hm
 subst hd; have hx : ∀ m : zqm, ((m = .returning /\ v = .niliface) \/ m = .panicking [⟨v, false⟩]) -> ∀ c' : zap, c' = (⟨ctodo, ctm, ⟨cfn, cn, ds, m, cdef, cround⟩⟩ : zap) -> ∃ c'' : zap, ((c'.R.mode = .returning /\ v = .niliface /\ c'' = c') \/ (c'.R.mode = .panicking [⟨v, false⟩] /\ c'' = zj5 c' (.panicking [⟨v, true⟩]))) /\ ∀ fr' H, zko C cl [] fr' H y.1.v true -> zqe C (.next ⟨fr', c'' :: acs, H⟩) = .next ⟨⟨ctodo, ctm, ⟨cfn, cn, ds, .returning, cdef, cround⟩⟩, acs, H⟩ := by
  intro m hm c' hc'; subst hc'
  have ret : ∀ (c'' : zap), c''.R.mode = .returning \/ c''.R.mode = .panicking [⟨v, true⟩] -> ∀ fr' H, zko C cl [] fr' H y.1.v true -> zqe C (.next ⟨fr', c'' :: acs, H⟩) = .next ⟨zj5 c'' .returning, acs, H⟩ := by
   rintro c'' hcm fr' H ⟨h1, h2, h3, h4, fn, l, h5, h6, h7⟩
   obtain ⟨todo, tm, ffn, n, defers, mode, deferred, round⟩ := fr'
   obtain ⟨c2todo, c2tm, c2fn, c2n, c2defers, c2mode, c2def, c2round⟩ := c''
   simp only at h1 h2 h3 h4 h6 hcm
   subst h1 h2 h3 h4
   show zmu C ⟨todo, tm, _⟩ (_ :: acs) H = _
   unfold zmu; rw [h5, zad, h6]; rcases hcm with rfl | rfl <;> rfl
  rcases hm with ⟨rfl, rfl⟩ | rfl
  ·exact ⟨_, .inl ⟨rfl, rfl, rfl⟩, fun fr' H hr => ret _ (.inl rfl) fr' H hr⟩
  ·exact ⟨_, .inr ⟨rfl, rfl⟩, fun fr' H hr => ret _ (.inr rfl) fr' H hr⟩
 obtain ⟨c'', h1, h2⟩ := hx cmode hm _ rfl
 obtain ⟨hp, g, h3, fr', h4, h5⟩ := z3f hA hφ (acs := acs) h1 h hy
 refine .step ?_
 have e : zqe C (.next ⟨⟨ctodo, ctm, ⟨cfn, cn, ⟨some (.func cl), 0, cells⟩ :: ds, cmode, cdef, cround⟩⟩, acs, H⟩) = .next ⟨g, ⟨ctodo, ctm, ⟨cfn, cn, ds, cmode, cdef, cround⟩⟩ :: acs, H⟩ := by
  have e1 : zqe C (.next ⟨⟨ctodo, ctm, ⟨cfn, cn, ⟨some (.func cl), 0, cells⟩ :: ds, cmode, cdef, cround⟩⟩, acs, H⟩) = zrh C ⟨some (.func cl), 0, cells⟩ ds ⟨ctodo, ctm, ⟨cfn, cn, ⟨some (.func cl), 0, cells⟩ :: ds, cmode, cdef, cround⟩⟩ acs H := by
   rcases hm with ⟨rfl, _⟩ | rfl <;> rfl
  rw [e1]; unfold zrh; simp only []; rw [hp]; simp only []; rw [h3]; rfl
 rw [e]; refine h4.trans (.step ?_)
 rw [h2 _ _ h5]; exact .refl _
theorem zza {H : zaf} {tm tm' : Tm} : ∀ {l : List ResultVar}, (∀ r ∈ l, ∃ a t, r = .cell a t /\ tm'.get a = tm.get a) -> zfe C H tm' l = zfe C H tm l := by
 intro l; induction l with
 | nil => exact fun _ => rfl
 | cons r l ih =>
  intro h; obtain ⟨a, t, rfl, h1⟩ := h _ yby
  have ih := ih fun r hr => h r (ybr _ hr)
  show zel (zfw C H tm') _ = zel (zfw C H tm) _
  rw [zcq, zcq]; have e : zfw C H tm' (.cell a t) = zfw C H tm (.cell a t) := by
   show (ob (ob (tm'.get a) zab.asPtr) fun p => ob (C.tys.get t) fun ty => ob (zax H p.1) fun c => znx ty c.1 p.2) = _
   rw [h1]; rfl
  rw [e]; have ih : zel (zfw C H tm') l = zel (zfw C H tm) l := ih
  rw [ih]
theorem z7w {l : List ResultVar} {o6 : List Oper} (h : zzei l o6 = true) : ∀ r ∈ l, ∃ a t, r = .cell a t /\ ∀ o ∈ o6, o.dst ≠ some a := by
 unfold zzei at h; rw [zc5, ycb] at h; intro r hr; have := h r hr
 cases r with
 | tmp t => cases this
 | cell a t =>
  refine ⟨a, t, rfl, fun o ho e => ?_⟩
  have this : zfh (fun o => match o.dst with | some d => !Nat.beq d a | none => true) o6 = true := this
  rw [zc5, ycb] at this; have := this o ho
  rw [e] at this; simp at this
theorem z1m (hA : zii C A) {φ : Ora} (hφ : zih C φ) {f : Nat} {fn : Func} {q : z09} (hf : C.fns.get f = some fn) (hq : zznx q.o5.toList = some (q.d, q.cl, q.bs)) {acs : List zap} {ds : List zlr} {tm : Tm} {H : zaf} {x : Out × zaf} (h : zmx C A φ fn q tm H = some x) :
  Fin C (znb C f acs) ds (.next ⟨⟨[.code (.seq (.region q.i5 q.o5 false) (.seq (.region q.i6 q.o6 false) .ret))], tm, RR f fn.ntmps none ds⟩, acs, H⟩) x := by
 unfold zmx at h; simp only [zae, zac, ybb] at h; obtain ⟨⟨h1, h2, h3⟩, cells, h4, y, h5, h6⟩ := h
 have hc := z7w h1
 let I : Tm -> Prop := fun tm' => ∀ r ∈ fn.results.toList, ∃ a t, r = .cell a t /\ tm'.get a = tm.cut.get a
 let D : zlr := ⟨some (.func q.cl), 0, cells⟩
 let E6 : zzfb := fun _ o y => if y.1.p = true then ∃ fr, o = .next ⟨fr, acs, y.2⟩ /\ fr.R = ⟨f, fn.ntmps, D :: ds, .panicking [⟨y.1.v, false⟩], false, none⟩ /\ I fr.tm else znb C f acs false ds o y
 have close : ∀ (c : zap) (H : zaf) (v : zab) (tm0 : Tm) (z : Out × zaf), c.R = ⟨f, fn.ntmps, D :: ds, c.R.mode, false, none⟩ -> ((c.R.mode = .returning /\ v = .niliface) \/ c.R.mode = .panicking [⟨v, false⟩]) -> (∀ r ∈ fn.results.toList, ∃ a t, r = .cell a t /\ c.tm.get a = tm0.get a) -> zt2 C A φ fn q.cl cells v tm0 H = some z -> z.1.p = false /\ ∃ o', zho C (.next ⟨c, acs, H⟩) o' /\ znb C f acs false ds o' z := by
  intro c H v tm0 z e1 e2 e3 e4; unfold zt2 at e4; rw [zac] at e4; obtain ⟨w, e5, e6⟩ := e4
  rw [zae] at e6; unfold z8j at e6; rw [zac] at e6; obtain ⟨e7, l, e8, e9⟩ := e6
  cases e9
  have hd : c.R.defers = D :: ds := by rw [e1]
  have r1 := zzim hA hφ (acs := acs) hd e2 e5 (by simpa using e7)
  refine ⟨rfl, _, r1, _, rfl, zmc.of ⟨rfl, rfl, by rw [e1], by rw [e1], fn, l, hf, ?_, rfl⟩ rfl⟩
  show zfe C w.2 c.tm fn.results.toList = some l
  rw [zza e3]; exact e8
 refine .step ?_
 rw [zbx rfl]; show Fin C (znb C f acs) ds (zfb C q.o5 [.code (.seq (.region q.i6 q.o6 false) .ret)] (RR f fn.ntmps none ds) acs q.o5.toList tm.cut H) x
 rw [zzd1 hq h4 (zdk.1 h3)]
 refine .step ?_
 rw [zbx rfl]; show Fin C (znb C f acs) ds (.next ⟨⟨[.code (.seq (.region q.i6 q.o6 false) .ret)], putA fn.ntmps tm.cut (some q.d) (.func (.func q.cl) [] cells), RR f fn.ntmps none (D :: ds)⟩, acs, H⟩) x
 refine .step ?_
 rw [zbx rfl]; show Fin C (znb C f acs) ds (zfb C q.o6 [.code .ret] (RR f fn.ntmps none (D :: ds)) acs q.o6.toList (putA fn.ntmps tm.cut (some q.d) (.func (.func q.cl) [] cells)).cut H) x
 rw [cutK (show tm.cut.k <= q.d from zg3.1 h2)]
 have r6 : Fin C E6 (D :: ds) (zfb C q.o6 [.code .ret] (RR f fn.ntmps none (D :: ds)) acs q.o6.toList tm.cut.cut H) y := by
  refine z2b hφ (I := I) (N := fn.ntmps) rfl rfl (fun l tm' hI hp => ?_) (fun tm' H' hI hy => ?_) _ _ _ (fun o ho tm' v hI r hr => ?_) (fun r hr => ?_) h5
  ·show if y.1.p = true then _ else _
   rw [yab hp]; exact ⟨_, rfl, rfl, hI⟩
  ·have : zqe C (.next ⟨⟨[.code .ret], tm', RR f fn.ntmps none (D :: ds)⟩, acs, H'⟩) = .next ⟨⟨[.code .ret], tm', ⟨f, fn.ntmps, D :: ds, .returning, false, none⟩⟩, acs, H'⟩ := rfl
   refine .step ?_
   rw [this]; obtain ⟨z1, o', z2, z3⟩ := close ⟨[.code .ret], tm', ⟨f, fn.ntmps, D :: ds, .returning, false, none⟩⟩ H' .niliface tm' y rfl (.inl ⟨rfl, rfl⟩) (fun r hr => by obtain ⟨a, t, rfl, _⟩ := hc r hr; exact ⟨a, t, rfl, rfl⟩) hy
   refine ⟨o', z2, ?_⟩
   show if y.1.p = true then _ else _
   rw [z1, yaa (by simp)]
   exact z3
  ·obtain ⟨a, t, rfl, h7⟩ := hI r hr
   obtain ⟨a', t', e, h8⟩ := hc _ hr
   cases e
   exact ⟨a, t, rfl, by rw [zby, yaa (fun e => h8 o ho e.1)]; exact h7⟩
  ·obtain ⟨a, t, rfl, _⟩ := hc r hr
   exact ⟨a, t, rfl, rfl⟩
 obtain ⟨o', g1, g2⟩ := r6
 have g2 : if y.1.p = true then ∃ fr, o' = .next ⟨fr, acs, y.2⟩ /\ fr.R = ⟨f, fn.ntmps, D :: ds, .panicking [⟨y.1.v, false⟩], false, none⟩ /\ I fr.tm else znb C f acs false ds o' y := g2
 cases hp : y.1.p with
 | false =>
  rw [hp] at h6 g2; rw [yaa (by simp)] at g2
  have h6 : some y = some x := h6
  cases h6; exact ⟨o', g1, g2⟩
 | true =>
  rw [hp] at h6 g2; rw [yab rfl] at g2; have h6 : zt2 C A φ fn q.cl cells y.1.v tm.cut y.2 = some x := h6
  obtain ⟨fr, rfl, e1, e2⟩ := g2
  obtain ⟨_, o'', z2, z3⟩ := close fr y.2 y.1.v tm.cut x (by rw [e1]) (.inr (by rw [e1])) e2 h6
  exact ⟨o'', g1.trans z2, z3⟩
theorem z3l (hA : zii C A) {φ : Ora} (hφ : zih C φ) {f : Nat} {fn : Func} {c : zbb} (hf : C.fns.get f = some fn) {acs : List zap} {tm : Tm} {H : zaf} {x : Out × zaf} (h : zs3 C A φ f fn c tm H = some x) :
  Fin C (znb C f acs) [] (.next ⟨⟨[.code (zck c)], tm, RR f fn.ntmps none []⟩, acs, H⟩) x := by
 unfold zs3 at h; split at h
 ·have hK : zvp C (znb C f acs) (fun _ => True) f fn.ntmps none acs (zyt C fn) [] := ⟨fun ds x tm H _ h => zof hf h rfl, fun ds x i tm H _ h => (by cases h), fun ds x tm H _ h k' => zof hf h rfl⟩
  exact zoh hφ (zqz ⟨fn, hf⟩) c (zyt C fn) [] (Or.inl rfl) hK [] x tm H trivial h
 ·rename_i p hp
  obtain ⟨l, q⟩ := p
  obtain ⟨h1, h2⟩ := z1v c hp
  rw [h1]; clear h1 hp
  have key : ∀ (l : List zbb) ds x tm H, den C φ f fn.ntmps (zzfd l) (zzjs C A φ fn q) tm H = some x -> Fin C (znb C f acs) ds (.next ⟨⟨[.code (zzdd l (.seq (.region q.i5 q.o5 false) (.seq (.region q.i6 q.o6 false) .ret)))], tm, RR f fn.ntmps none ds⟩, acs, H⟩) x := by
   intro l; induction l with
   | nil => exact fun ds x tm H h => z1m hA hφ hf h2 h
   | cons a l ih =>
    intro ds x tm H h; refine zoc (zqz ⟨fn, hf⟩) (t1 := [.code (zzdd (a :: l) _)]) rfl (t2 := .code (zck a) :: [.code (zzdd l (.seq (.region q.i5 q.o5 false) (.seq (.region q.i6 q.o6 false) .ret)))]) (fun _ _ => rfl) ?_
    have hK : zvp C (znb C f acs) (fun _ => True) f fn.ntmps none acs ⟨den C φ f fn.ntmps (zzfd l) (zzjs C A φ fn q), fun _ _ _ => none, z8j C fn⟩ [.code (zzdd l (.seq (.region q.i5 q.o5 false) (.seq (.region q.i6 q.o6 false) .ret)))] :=
     ⟨fun ds x tm H _ h => ih ds x tm H h, fun ds x i tm H _ h => (by cases h), fun ds x tm H _ h k' => zof hf h rfl⟩
    exact zoh hφ (zqz ⟨fn, hf⟩) a _ _ (Or.inl rfl) hK ds x tm H trivial h
  exact key l [] x tm H h
theorem z1s (hA : zii C A) {φ : Ora} (hφ : zih C φ) : zih C (z1t C A φ) := by
 refine ⟨fun f args H x h => ?_, fun l args H x h => zy8 hφ h⟩
 have h : z5i C A φ f args H = some x := h
 unfold z5i at h; rw [zac] at h; obtain ⟨c, h1, h⟩ := h
 rw [zac] at h; obtain ⟨fn, h2, h⟩ := h
 rw [zac] at h; obtain ⟨g, h3, h⟩ := h
 refine ⟨g, h3, fun acs => ?_⟩
 obtain ⟨fn', c', e1, e2, e3, e4⟩ := z25 h3
 rw [h2] at e1; cases e1
 obtain ⟨fn', e5, e6⟩ := hA f c h1
 rw [h2] at e5; cases e5
 rw [e2] at e6; cases e6
 obtain ⟨gt, gtm, gR⟩ := g
 simp only at e3 e4 h
 subst e3 e4
 obtain ⟨o', k1, fr', rfl, k2⟩ := z3l hA hφ h2 (acs := acs) h
 grind
theorem zu0 (hA : zii C A) : ∀ n, zih C (zzjw C A n) := by
 intro n; induction n with
 | zero => exact ⟨fun f args H x h => (by cases h), fun l args H x h => (by cases h)⟩
 | succ n ih => exact z1s hA ih
theorem zzdg (hA : zii C A) : zih C (fnV C A) := by
 refine ⟨fun f args H x h => ?_, fun f args H x h => ?_⟩
 ·obtain ⟨n, hn⟩ := zkh.1 h
  exact (zu0 hA n).fn _ _ _ _ hn
 ·obtain ⟨n, hn⟩ := zkh.1 h
  exact (zu0 hA n).rd _ _ _ _ hn
theorem z0q {P : Program} {B N : Nat} {I : World -> Prop} {μ : Mu} {w : World} (hS : Sim P C B N I) (hI : I w) (hA : zii C A) {f : Nat} {args : List zab} {args' : Array Value} {H H' : zaf} {v : zab} (hH : zbp B N μ H w) (hl : zbw μ args args'.toList)
  (h : fnV C A (.func f) args H = some (⟨v, false⟩, H')) : Calls P f args' w fun e w' => ∃ v' μ', e = .returned v' /\ μ.lw μ' /\ zaq μ' v v' /\ zbp B N μ' H' w' /\ Below N w w' := by
 intro base; obtain ⟨g, he, hr⟩ := (zzdg hA).fn _ _ _ _ h
 obtain ⟨fr', r1, hE⟩ := hr []
 obtain ⟨h1, h2, h3, h4, fn, l, h5, h6, rfl⟩ := hE.ret rfl
 have h0 : zci P C B N μ base (lone (Frame.enter P f args' .normal) base w) w (.next ⟨g, [], H⟩) := zwb hS.fns hH hl he
 obtain ⟨μ', b, cs, w', s1, s2, s3, s4, s5, s6⟩ := zci.reach hS hI r1 h0
 cases s6
 have hb := s5.body
 rw [yaa (by grind [zqm.running])] at hb
 obtain ⟨v', q1, q2⟩ := zup hS.tys s4 hb h6
 have hm := s5.rest.mode
 rw [h1] at hm; have hbm : b.mode = .returning := by
  cases hb : b.mode with
  | returning => rfl
  | _ => rw [hb] at hm; exact hm.elim
 have hd := s5.rest.defers
 rw [h2] at hd; have hbd : b.defers = [] := by
  generalize hx : b.defers = bd at hd
  cases hd; rfl
 have hk := s5.rest.kind
 rw [h3] at hk; have hfn : b.fn = f := by rw [s5.rest.fn, h4]
 exact ⟨.returned v', w', b, ⟨v', μ', rfl, s2, q2, s4, s3⟩, s1, hfn, hbm, hbd, hk, fn, by rw [hfn]; exact (hS.fns _ _ h5).1, q1⟩
end
end Go.Am
