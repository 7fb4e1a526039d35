/- Code as a function: limits. -/
import Derived.Test.YthmbkdkibhffbaaGreatDoorC04
set_option linter.all false
noncomputable section
namespace Go.Am
open Go Go.RowKit
theorem z74 {α : Type} {f : Nat -> Option α} {r : α} (h : lim f = some r) : ∃ n, f n = some r := by
 unfold lim at h; by_cases hx : ∃ n r, f n = some r
 ·rw [dif_pos hx] at h; exact ⟨_, h⟩
 ·rw [dif_neg hx] at h; cases h
structure zz5 {α β γ : Type} (ks : Nat -> α -> β -> Option γ) (k : α -> β -> Option γ) : Prop where
 up : ∀ n, Le2 (ks n) (ks (n + 1))
 ex : ∀ a b x, k a b = some x -> ∃ n, ks n a b = some x
theorem up_le {α β γ : Type} {ks : Nat -> α -> β -> Option γ} (h : ∀ n, Le2 (ks n) (ks (n + 1))) {n m : Nat} (hnm : n <= m) : Le2 (ks n) (ks m) := by
 induction hnm with
 | refl => exact fun _ _ _ h => h
 | step _ ih => exact fun a b x hx => h _ _ _ _ (ih a b x hx)
structure zzfz (φs : Nat -> Ora) (φ : Ora) : Prop where
 up : ∀ n, OLe (φs n) (φs (n + 1))
 ex : ∀ f a H x, φ f a H = some x -> ∃ n, φs n f a H = some x
theorem zzfz.le {φs : Nat -> Ora} {φ : Ora} (h : zzfz φs φ) {n m : Nat} (hnm : n <= m) : OLe (φs n) (φs m) := by
 induction hnm with
 | refl => exact fun _ _ _ _ h => h
 | step _ ih => exact fun f a H x hx => h.up _ _ _ _ _ (ih f a H x hx)
structure SupK (κs : Nat -> Kt) (κ : Kt) : Prop where
 norm : zz5 (fun n => (κs n).norm) κ.norm
 exit : ∀ i, zz5 (fun n => (κs n).exit i) (κ.exit i)
 ret : zz5 (fun n => (κs n).ret) κ.ret
section
variable {C : Ctx} {φ φ' : Ora} {φs : Nat -> Ora} {all : Array Oper} {N fn : Nat}
theorem z8x {g g' : Kt -> Tm -> zai -> zb8} {κ κ' : Kt} (hκ : KLe κ κ') (hg : ∀ κ κ', KLe κ κ' -> Le2 (g κ) (g' κ')) (live : List Nat) : ∀ m, Le2 (Nat.rec (motive := fun _ => Tm -> zai -> zb8) (fun _ _ => none) (fun _ r tm H => g ⟨r, κ.exit, κ.ret⟩ (keep live tm) H) m)
  (Nat.rec (motive := fun _ => Tm -> zai -> zb8) (fun _ _ => none) (fun _ r tm H => g' ⟨r, κ'.exit, κ'.ret⟩ (keep live tm) H) m) := by
 intro m; induction m with
 | zero => intro a b x h; cases h
 | succ m ih => exact fun a b x h => hg ⟨_, _, _⟩ ⟨_, _, _⟩ ⟨ih, hκ.exit, hκ.ret⟩ _ _ _ h
theorem KLe.refl (κ : Kt) : KLe κ κ := ⟨fun _ _ _ h => h, fun _ _ _ _ h => h, fun _ _ _ h => h⟩
theorem zy9 {g : Kt -> Tm -> zai -> zb8} {κ : Kt} (hg : ∀ κ κ', KLe κ κ' -> Le2 (g κ) (g κ')) (live : List Nat) : ∀ m, Le2 (Nat.rec (motive := fun _ => Tm -> zai -> zb8) (fun _ _ => none) (fun _ r tm H => g ⟨r, κ.exit, κ.ret⟩ (keep live tm) H) m)
  (Nat.rec (motive := fun _ => Tm -> zai -> zb8) (fun _ _ => none) (fun _ r tm H => g ⟨r, κ.exit, κ.ret⟩ (keep live tm) H) (m + 1)) := by
 intro m; induction m with
 | zero => intro a b x h; cases h
 | succ m ih => exact fun a b x h => hg ⟨_, _, _⟩ ⟨_, _, _⟩ ⟨ih, (KLe.refl κ).exit, (KLe.refl κ).ret⟩ _ _ _ h
theorem zk4 (hφ : OLe φ φ') : ∀ (c : zdd) (κ κ' : Kt), KLe κ κ' -> Le2 (den C φ fn N c κ) (den C φ' fn N c κ') := by
 have self : ∀ (ψ : Ora), OLe ψ ψ := fun _ _ _ _ _ h => h
 intro c; suffices h : ∀ φ φ', OLe φ φ' -> ∀ (κ κ' : Kt), KLe κ κ' -> Le2 (den C φ fn N c κ) (den C φ' fn N c κ') from h φ φ' hφ
 induction c with
 | skip => exact fun _ _ _ κ κ' hκ => hκ.norm
 | region id ops d => exact fun _ _ hφ κ κ' hκ => zoc hφ hκ.norm
 | seq a b iha ihb => exact fun _ _ hφ κ κ' hκ => iha _ _ hφ _ _ ⟨ihb _ _ hφ _ _ hκ, hκ.exit, hκ.ret⟩
 | cond c a b iha ihb =>
  intro φ φ' hφ κ κ' hκ tm H x h; have h : (ob (ob (ev c (.now tm)) zab.asBool) fun t => Bool.rec (motive := fun _ => zb8) (den C φ fn N b κ tm H) (den C φ fn N a κ tm H) t) = some x := h
  show (ob (ob (ev c (.now tm)) zab.asBool) fun t => Bool.rec (motive := fun _ => zb8) (den C φ' fn N b κ' tm H) (den C φ' fn N a κ' tm H) t) = some x
  rw [zad] at h ⊢
  obtain ⟨t, h1, h2⟩ := h
  refine ⟨t, h1, ?_⟩
  cases t with
  | true => exact iha _ _ hφ _ _ hκ _ _ _ h2
  | false => exact ihb _ _ hφ _ _ hκ _ _ _ h2
 | block id c ih =>
  intro φ φ' hφ κ κ' hκ; refine ih _ _ hφ _ _ ⟨hκ.norm, fun i tm H x h => ?_, hκ.ret⟩
  simp only [zm1] at h ⊢
  split at h
  ·rename_i e; rw [if_pos e]; exact hκ.norm _ _ _ h
  ·rename_i e; rw [if_neg e]; exact hκ.exit _ _ _ _ h
 | loop live c ih =>
  intro φ φ' hφ κ κ' hκ tm H x h; obtain ⟨m, hm⟩ := z74 h
  refine (zo6 fun m y hy => zy9 (ih _ _ (self φ')) live.kept m _ _ _ hy).2 ⟨m, ?_⟩
  exact z8x hκ (ih _ _ hφ) live.kept m _ _ _ hm
 | exit id => exact fun _ _ _ κ κ' hκ => hκ.exit id
 | ret => exact fun _ _ _ κ κ' hκ => hκ.ret
 | cut live c ih => exact fun _ _ hφ κ κ' hκ tm H x h => ih _ _ hφ _ _ hκ _ _ _ h
theorem z00 (hφ : zzfz φs φ) {r : ztd} {H : zai} {ks : Nat -> zab -> zai -> zb8} {k : zab -> zai -> zb8} (hk : zz5 ks k) {x : zab × zai} (h : zj0 φ r H k = some x) : ∃ n, zj0 (φs n) r H (ks n) = some x := by
 cases r <;> simp only [zj0] at h ⊢ <;> try (cases h; done)
 case val v H' => exact hk.ex _ _ _ h
 case enter f args =>
  rw [zad] at h; obtain ⟨p, h1, h2⟩ := h
  obtain ⟨n, hn⟩ := hφ.ex _ _ _ _ h1
  obtain ⟨m, hm⟩ := hk.ex _ _ _ h2
  exact ⟨max n m, by rw [zad]; exact ⟨p, hφ.le (Nat.le_max_left n m) _ _ _ _ hn, up_le hk.up (Nat.le_max_right n m) _ _ _ hm⟩⟩
theorem zv3 {t : Nat} {ks : Nat -> zab -> zai -> zb8} {k : zab -> zai -> zb8} (hk : zz5 ks k) : zz5 (fun n v H => zis C t v fun v => ks n v H) (fun v H => zis C t v fun v => k v H) := by
 refine ⟨fun n => zni (hk.up n), fun v H x h => ?_⟩
 rw [zcn] at h; obtain ⟨n, hn⟩ := hk.ex _ _ _ h.2
 exact ⟨n, by rw [zcn]; exact ⟨h.1, hn⟩⟩
theorem zzb6 (hφ : zzfz φs φ) {κs : Nat -> Tm -> zai -> zb8} {κ : Tm -> zai -> zb8} (hκ : zz5 κs κ) : ∀ (l : List Oper), zz5 (fun n => zxo C (φs n) all N (κs n) l) (zxo C φ all N κ l) := by
 intro l; refine ⟨fun n => zqc (hφ.up n) (hκ.up n) l, ?_⟩
 induction l with
 | nil => exact hκ.ex
 | cons o l ih =>
  intro tm H x h; rw [ziq, zad] at h; obtain ⟨w, h1, h2⟩ := h
  split at h2
  ·rename_i e
   obtain ⟨n, hn⟩ := z00 hφ (zv3 (ks := fun n v H' => zxo C (φs n) all N (κs n) l (putA N tm o.dst v) H') (k := fun v H' => zxo C φ all N κ l (putA N tm o.dst v) H') ⟨fun n v H' y hy => zqc (hφ.up n) (hκ.up n) l _ _ _ hy, fun v H' y hy => ih _ _ _ hy⟩) h2
   exact ⟨n, by show zxo C (φs n) all N (κs n) (o :: l) tm H = some x; rw [ziq, zad]; exact ⟨w, h1, by rw [if_pos e]; exact hn⟩⟩
  ·rename_i e
   obtain ⟨n, hn⟩ := ih _ _ _ h2
   exact ⟨n, by show zxo C (φs n) all N (κs n) (o :: l) tm H = some x; rw [ziq, zad]; exact ⟨w, h1, by rw [if_neg e]; exact hn⟩⟩
variable {old : Tm} {olds : List (Nat × List Nat)}
theorem zqm {H : zai} {ks : Nat -> Tm -> zb8} {k : Tm -> zb8} (hk : ∀ tm x, k tm = some x -> ∃ n, ks n tm = some x) : ∀ (l : List Nat) tm x, zci C H all N old olds k l tm = some x -> ∃ n, zci C H all N old olds (ks n) l tm = some x := by
 intro l; induction l with
 | nil => exact hk
 | cons i l ih =>
  intro tm x h; simp only [zh5] at h ⊢
  rw [zad] at h; obtain ⟨o, h1, h⟩ := h
  rw [zad] at h; obtain ⟨w, h3, h4⟩ := h
  split at h4
  ·rename_i e
   rw [zad] at h4; obtain ⟨v, h5, h6⟩ := h4
   rw [zcn] at h6; obtain ⟨n, hn⟩ := ih _ _ h6.2
   exact ⟨n, by rw [h1, zac, h3, zac, if_pos e, h5, zac, zcn]; exact ⟨h6.1, hn⟩⟩
  ·rename_i e
   obtain ⟨n, hn⟩ := ih _ _ h4
   exact ⟨n, by rw [h1, zac, h3, zac, if_neg e]; exact hn⟩
theorem zye (hφ : zzfz φs φ) {κs : Nat -> Tm -> zai -> zb8} {κ : Tm -> zai -> zb8} (hκ : zz5 κs κ) : ∀ (l : List zd4), zz5 (fun n => zcq C (φs n) all N old olds (κs n) l) (zcq C φ all N old olds κ l) := by
 intro l; refine ⟨fun n => zj7 (hφ.up n) (hκ.up n) l, ?_⟩
 induction l with
 | nil => exact hκ.ex
 | cons st l ih =>
  intro tm H x h; rw [ze1, zad] at h; obtain ⟨o, h1, h⟩ := h
  rw [zad] at h; obtain ⟨w, h2, h⟩ := h
  have cont : zz5 (fun n v H' => zfo C H' all old olds (putA N tm o.dst v) (zci C H' all N old olds (fun tm => zcq C (φs n) all N old olds (κs n) l tm H') st.lights (putA N tm o.dst v)) st.again)
    (fun v H' => zfo C H' all old olds (putA N tm o.dst v) (zci C H' all N old olds (fun tm => zcq C φ all N old olds κ l tm H') st.lights (putA N tm o.dst v)) st.again) := by
   refine ⟨fun n v H' y hy => zrd (zkf (fun tm x hx => zj7 (hφ.up n) (hκ.up n) l _ _ _ hx) _ _ _ (zjn _ hy).2) _ hy, fun v H' y hy => ?_⟩
   obtain ⟨n, hn⟩ := zqm (fun tm x hx => ih tm H' x hx) _ _ _ (zjn _ hy).2
   exact ⟨n, zrd hn _ hy⟩
  simp only [] at h; split at h
  ·rename_i e
   obtain ⟨n, hn⟩ := z00 hφ (zv3 cont) h
   exact ⟨n, by show zcq C (φs n) all N old olds (κs n) (st :: l) tm H = some x; rw [ze1, h1, zac, h2, zac]; simp only []; rw [if_pos e]; exact hn⟩
  ·rename_i e
   obtain ⟨n, hn⟩ := cont.ex _ _ _ h
   exact ⟨n, by show zcq C (φs n) all N old olds (κs n) (st :: l) tm H = some x; rw [ze1, h1, zac, h2, zac]; simp only []; rw [if_neg e]; exact hn⟩
theorem zyn (hφ : zzfz φs φ) {κs : Nat -> Tm -> zai -> zb8} {κ : Tm -> zai -> zb8} (hκ : zz5 κs κ) {id : Nat} {draw : Bool} : zz5 (fun n => zne C (φs n) fn N (κs n) id all draw) (zne C φ fn N κ id all draw) := by
 refine ⟨fun n => zoc (hφ.up n) (hκ.up n), fun tm H x h => ?_⟩
 cases draw with
 | false => exact (zzb6 hφ hκ _).ex _ _ _ h
 | true =>
  have h : (ob (ob (C.plans.get fn) fun t => t.get id) fun p => zao (zjt all p) (zci C H all N tm.cut p.olds (fun tm' => zcq C φ all N tm.cut p.olds κ p.stages tm' H) p.first tm.cut)) = some x := h
  rw [zad] at h; obtain ⟨p, h1, h⟩ := h
  rw [zae] at h; obtain ⟨n, hn⟩ := zqm (fun tm' x hx => (zye hφ hκ p.stages).ex tm' H x hx) _ _ _ h.2
  refine ⟨n, ?_⟩
  show (ob (ob (C.plans.get fn) fun t => t.get id) fun p => zao (zjt all p) (zci C H all N tm.cut p.olds (fun tm' => zcq C (φs n) all N tm.cut p.olds (κs n) p.stages tm' H) p.first tm.cut)) = some x
  rw [h1, zac, zae]; exact ⟨h.1, hn⟩
theorem z9u (hφ : zzfz φs φ) : ∀ (c : zdd) (κs : Nat -> Kt) (κ : Kt), SupK κs κ -> zz5 (fun n => den C (φs n) fn N c (κs n)) (den C φ fn N c κ) := by
 have kle : ∀ {κs : Nat -> Kt} {κ : Kt}, SupK κs κ -> ∀ n, KLe (κs n) (κs (n + 1)) := fun h n => ⟨h.norm.up n, fun i => (h.exit i).up n, h.ret.up n⟩
 intro c; induction c with
 | skip => exact fun κs κ hκ => hκ.norm
 | region id ops d => exact fun κs κ hκ => zyn hφ hκ.norm
 | seq a b iha ihb => exact fun κs κ hκ => iha (fun n => ⟨den C (φs n) fn N b (κs n), (κs n).exit, (κs n).ret⟩) _ ⟨ihb _ _ hκ, hκ.exit, hκ.ret⟩
 | cond c a b iha ihb =>
  intro κs κ hκ; refine ⟨fun n => zk4 (hφ.up n) (.cond c a b) _ _ (kle hκ n), fun tm H x h => ?_⟩
  have h : (ob (ob (ev c (.now tm)) zab.asBool) fun t => Bool.rec (motive := fun _ => zb8) (den C φ fn N b κ tm H) (den C φ fn N a κ tm H) t) = some x := h
  rw [zad] at h; obtain ⟨t, h1, h2⟩ := h
  have key : ∀ n, (Bool.rec (motive := fun _ => zb8) (den C (φs n) fn N b (κs n) tm H) (den C (φs n) fn N a (κs n) tm H) t : zb8) = some x -> den C (φs n) fn N (.cond c a b) (κs n) tm H = some x := by
   intro n hn; show (ob (ob (ev c (.now tm)) zab.asBool) fun t => Bool.rec (motive := fun _ => zb8) (den C (φs n) fn N b (κs n) tm H) (den C (φs n) fn N a (κs n) tm H) t) = some x
   rw [h1, zac]; exact hn
  cases t with
  | true => obtain ⟨n, hn⟩ := (iha _ _ hκ).ex _ _ _ h2; exact ⟨n, key n hn⟩
  | false => obtain ⟨n, hn⟩ := (ihb _ _ hκ).ex _ _ _ h2; exact ⟨n, key n hn⟩
 | block id c ih =>
  intro κs κ hκ; refine ih (fun n => ⟨(κs n).norm, fun i tm H => Bool.rec (motive := fun _ => zb8) ((κs n).exit i tm H) ((κs n).norm tm H) (Nat.beq id i), (κs n).ret⟩) _ ⟨hκ.norm, fun i => ⟨fun n tm H x h => ?_, fun tm H x h => ?_⟩, hκ.ret⟩
  ·simp only [zm1] at h ⊢
   split at h
   ·rename_i e; rw [if_pos e]; exact hκ.norm.up n _ _ _ h
   ·rename_i e; rw [if_neg e]; exact (hκ.exit i).up n _ _ _ h
  ·simp only [zm1] at h ⊢
   split at h
   ·rename_i e; obtain ⟨n, hn⟩ := hκ.norm.ex _ _ _ h; exact ⟨n, by rw [if_pos e]; exact hn⟩
   ·rename_i e; obtain ⟨n, hn⟩ := (hκ.exit i).ex _ _ _ h; exact ⟨n, by rw [if_neg e]; exact hn⟩
 | loop live c ih =>
  intro κs κ hκ; refine ⟨fun n => zk4 (hφ.up n) (.loop live c) _ _ (kle hκ n), fun tm H x h => ?_⟩
  obtain ⟨m, hm⟩ := z74 h
  have it : ∀ m, zz5 (fun n => (Nat.rec (motive := fun _ => Tm -> zai -> zb8) (fun _ _ => none) (fun _ r tm H => den C (φs n) fn N c ⟨r, (κs n).exit, (κs n).ret⟩ (keep live.kept tm) H) m : Tm -> zai -> zb8))
    (Nat.rec (motive := fun _ => Tm -> zai -> zb8) (fun _ _ => none) (fun _ r tm H => den C φ fn N c ⟨r, κ.exit, κ.ret⟩ (keep live.kept tm) H) m) := by
   intro m; induction m with
   | zero => exact ⟨fun _ _ _ _ h => h, fun _ _ _ h => by cases h⟩
   | succ m ihm =>
    have := ih _ _ (⟨ihm, hκ.exit, hκ.ret⟩ : SupK (fun n => ⟨(Nat.rec (motive := fun _ => Tm -> zai -> zb8) (fun _ _ => none) (fun _ r tm H => den C (φs n) fn N c ⟨r, (κs n).exit, (κs n).ret⟩ (keep live.kept tm) H) m : Tm -> zai -> zb8), (κs n).exit, (κs n).ret⟩) ⟨(Nat.rec (motive := fun _ => Tm -> zai -> zb8) (fun _ _ => none) (fun _ r tm H => den C φ fn N c ⟨r, κ.exit, κ.ret⟩ (keep live.kept tm) H) m : Tm -> zai -> zb8), κ.exit, κ.ret⟩)
    exact ⟨fun n tm H x h => this.up n _ _ _ h, fun tm H x h => this.ex _ _ _ h⟩
  obtain ⟨n, hn⟩ := (it m).ex _ _ _ hm
  exact ⟨n, (zo6 fun m y hy => zy9 (fun κ κ' h => zk4 (fun _ _ _ _ h => h) c κ κ' h) live.kept m _ _ _ hy).2 ⟨m, hn⟩⟩
 | exit id => exact fun κs κ hκ => hκ.exit id
 | ret => exact fun κs κ hκ => hκ.ret
 | cut live c ih => exact fun κs κ hκ => ⟨fun n tm H x h => (ih _ _ hκ).up n _ _ _ h, fun tm H x h => (ih _ _ hκ).ex _ _ _ h⟩
theorem zzdl {live : PI} {c : zdd} {κ : Kt} {tm : Tm} {H : zai} : den C φ fn N (.loop live c) κ tm H = den C φ fn N c ⟨den C φ fn N (.loop live c) κ, κ.exit, κ.ret⟩ (keep live.kept tm) H := by
 have self : OLe φ φ := fun _ _ _ _ h => h
 have up : ∀ m, Le2 (Nat.rec (motive := fun _ => Tm -> zai -> zb8) (fun _ _ => none) (fun _ r tm H => den C φ fn N c ⟨r, κ.exit, κ.ret⟩ (keep live.kept tm) H) m)
   (Nat.rec (motive := fun _ => Tm -> zai -> zb8) (fun _ _ => none) (fun _ r tm H => den C φ fn N c ⟨r, κ.exit, κ.ret⟩ (keep live.kept tm) H) (m + 1)) := zy9 (zk4 self c) live.kept
 have some_iff : ∀ tm H x, den C φ fn N (.loop live c) κ tm H = some x ↔ ∃ m, (Nat.rec (motive := fun _ => Tm -> zai -> zb8) (fun _ _ => none) (fun _ r tm H => den C φ fn N c ⟨r, κ.exit, κ.ret⟩ (keep live.kept tm) H) m : Tm -> zai -> zb8) tm H = some x :=
  fun tm H x => zo6 fun m y hy => up m _ _ _ hy
 have sup : SupK (fun m => ⟨(Nat.rec (motive := fun _ => Tm -> zai -> zb8) (fun _ _ => none) (fun _ r tm H => den C φ fn N c ⟨r, κ.exit, κ.ret⟩ (keep live.kept tm) H) m : Tm -> zai -> zb8), κ.exit, κ.ret⟩) ⟨den C φ fn N (.loop live c) κ, κ.exit, κ.ret⟩ :=
  ⟨⟨up, fun tm H x h => (some_iff tm H x).1 h⟩, fun i => ⟨fun _ _ _ _ h => h, fun _ _ _ h => ⟨0, h⟩⟩, ⟨fun _ _ _ _ h => h, fun _ _ _ h => ⟨0, h⟩⟩⟩
 have key : ∀ x, den C φ fn N (.loop live c) κ tm H = some x ↔ den C φ fn N c ⟨den C φ fn N (.loop live c) κ, κ.exit, κ.ret⟩ (keep live.kept tm) H = some x := by
  intro x; rw [some_iff]; constructor
  ·rintro ⟨m, hm⟩
   cases m with
   | zero => cases hm
   | succ m => exact zk4 self c ⟨(Nat.rec (motive := fun _ => Tm -> zai -> zb8) (fun _ _ => none) (fun _ r tm H => den C φ fn N c ⟨r, κ.exit, κ.ret⟩ (keep live.kept tm) H) m : Tm -> zai -> zb8), κ.exit, κ.ret⟩ ⟨den C φ fn N (.loop live c) κ, κ.exit, κ.ret⟩ ⟨fun tm H y hy => (some_iff tm H y).2 ⟨m, hy⟩, fun _ _ _ _ h => h, fun _ _ _ h => h⟩ _ _ _ hm
  ·intro h
   obtain ⟨m, hm⟩ := (z9u (φs := fun _ => φ) ⟨fun _ => self, fun _ _ _ _ h => ⟨0, h⟩⟩ c _ _ sup).ex _ _ _ h
   exact ⟨m + 1, hm⟩
 cases h : den C φ fn N (.loop live c) κ tm H with
 | some x => exact ((key x).1 h).symm
 | none =>
  cases h2 : den C φ fn N c ⟨den C φ fn N (.loop live c) κ, κ.exit, κ.ret⟩ (keep live.kept tm) H with
  | none => rfl
  | some x => rw [(key x).2 h2] at h; cases h
end
end Go.Am
namespace Go.Am
open Go Go.RowKit
def zzcy : List zce -> Bool
 | .reg .. :: _ => true
 | _ => false
section
variable {P : Program} {C : Ctx} {B N : Nat} {I : World -> Prop} {μ : Mu} {w : World} {base : List Frame} {m : Machine}
theorem zzbi (hF : zuy P C) {f : Nat} {args : List zab} {args' : Array Value} {H : zai} (hH : zb0 B N μ H w) (hl : zby μ args args'.toList) {g : zav} (he : zeo C f args false = some g) :
  zb2 P C B N μ base (lone (Frame.enter P f args' .normal) base w) w (.next ⟨g, [], H⟩) :=
 ⟨μ, _, [], w, .refl _ _, fun _ _ h => h, Below.refl N w, hH, (zk2 (cur := some H) hF he hl).1, .nil⟩
end
end Go.Am
namespace Go.Am
open Go Go.RowKit
inductive zn3 (C : Ctx) : zdr -> zdr -> Prop
 | refl (o : zdr) : zn3 C o o
 | step {o o' : zdr} : zn3 C (zi9 C o) o' -> zn3 C o o'
 | forget {todo : List zce} {tm tm' : Tm} {R : zgf} {cs : List zav} {H : zai} {o' : zdr} : zzcy todo = false -> (∀ i v, tm'.get i = some v -> tm.get i = some v) -> zn3 C (.next ⟨⟨todo, tm', R⟩, cs, H⟩) o' -> zn3 C (.next ⟨⟨todo, tm, R⟩, cs, H⟩) o'
theorem zn3.trans {C : Ctx} {a b c : zdr} (h : zn3 C a b) (k : zn3 C b c) : zn3 C a c := by
 induction h with
 | refl => exact k
 | step _ ih => exact .step (ih k)
 | forget h1 h2 _ ih => exact .forget h1 h2 (ih k)
section
variable {P : Program} {C : Ctx} {B N : Nat} {I : World -> Prop} {μ : Mu} {w : World} {base : List Frame} {m : Machine}
theorem zcm.forget {n : Nat} {tm tm' : Tm} {tmps : Array Value} (h : zcm μ n tm tmps) (hs : ∀ i v, tm'.get i = some v -> tm.get i = some v) : zcm μ n tm' tmps := ⟨h.1, fun i v hv => h.2 i v (hs i v hv)⟩
theorem z9e {todo : List zce} {tm tm' : Tm} {R : zgf} {acs : List zav} {H : zai} (hr : zzcy todo = false) (hs : ∀ i v, tm'.get i = some v -> tm.get i = some v) (h : zb2 P C B N μ base m w (.next ⟨⟨todo, tm, R⟩, acs, H⟩)) :
  zb2 P C B N μ base m w (.next ⟨⟨todo, tm', R⟩, acs, H⟩) := by
 obtain ⟨μ', b, cs, w', h1, h2, h3, h4, h5, h6⟩ := h
 obtain ⟨bfn, btmps, btodo, bdefers, bmode, bkind, bround⟩ := b
 refine ⟨μ', _, cs, w', h1, h2, h3, h4, ⟨h5.rest, ?_⟩, h6⟩
 have hb := h5.body
 simp only at hb ⊢
 split at hb
 ·rename_i hm
  rw [if_pos hm]
  cases hb with
  | plain a t => exact .plain a (t.forget hs)
  | reg _ _ _ _ => cases hr
  | mid _ _ _ _ _ => cases hr
 ·rename_i hm
  rw [if_neg hm]; exact hb.forget hs
theorem zb2.reach (hS : Sim P C B N I) (hI : I w) {o o' : zdr} (h : zn3 C o o') : zb2 P C B N μ base m w o -> zb2 P C B N μ base m w o' := by
 induction h with
 | refl => exact id
 | step _ ih => exact fun h => ih (zgm hS hI h)
 | forget hr hs _ ih => exact fun h => ih (z9e hr hs h)
end
def zuv (C : Ctx) (f : Nat) (fr : zav) (H : zai) (v : zab) : Prop :=
 fr.R.mode = .returning /\ fr.R.defers = [] /\ fr.R.deferred = false /\ fr.R.fn = f /\ ∃ fn l, C.fns.get f = some fn /\ zjd C H fr.tm fn.results.toList = some l /\ v = zlr l
def zou (C : Ctx) (φ : Ora) : Prop := ∀ f args H x, φ f args H = some x -> ∃ g, zeo C f args false = some g /\ ∀ acs, ∃ fr', zn3 C (.next ⟨g, acs, H⟩) (.next ⟨fr', acs, x.2⟩) /\ zuv C f fr' x.2 x.1
def Fin (C : Ctx) (f : Nat) (acs : List zav) (o : zdr) (x : zab × zai) : Prop := ∃ fr', zn3 C o (.next ⟨fr', acs, x.2⟩) /\ zuv C f fr' x.2 x.1
theorem Fin.step {C : Ctx} {f : Nat} {acs : List zav} {o : zdr} {x : zab × zai} (h : Fin C f acs (zi9 C o) x) : Fin C f acs o x := by
 obtain ⟨fr, h1, h2⟩ := h; exact ⟨fr, .step h1, h2⟩
theorem Fin.of {C : Ctx} {f : Nat} {acs : List zav} {o o' : zdr} {x : zab × zai} (hr : zn3 C o o') (h : Fin C f acs o' x) : Fin C f acs o x := by
 obtain ⟨fr, h1, h2⟩ := h; exact ⟨fr, hr.trans h1, h2⟩
structure SoundK (C : Ctx) (f : Nat) (acs : List zav) (R : zgf) (κ : Kt) (k : List zce) (x : zab × zai) : Prop where
 norm : ∀ tm H, κ.norm tm H = some x -> Fin C f acs (.next ⟨⟨k, tm, R⟩, acs, H⟩) x
 exit : ∀ i tm H, κ.exit i tm H = some x -> ∃ k', zgd i k = some k' /\ Fin C f acs (.next ⟨⟨k', tm, R⟩, acs, H⟩) x
 ret : ∀ tm H, κ.ret tm H = some x -> ∀ k', Fin C f acs (.next ⟨⟨.code .ret :: k', tm, R⟩, acs, H⟩) x
section
variable {C : Ctx} {φ : Ora} {f N : Nat} {acs : List zav} {R : zgf} {κ : Kt} {k : List zce} {x : zab × zai} {all : Array Oper}
theorem zd5 (hR : R.mode.running = true) {todo : List zce} {tm : Tm} {H : zai} : zi9 C (.next ⟨⟨todo, tm, R⟩, acs, H⟩) = zul C todo tm R acs H := by
 show (bif R.mode.running then zul C todo tm R acs H else _) = _
 rw [hR]; rfl
theorem zzhu {fr c c' : zav} {H : zai} {v : zab} (hr : zuv C f fr H v) (hf : zcr c v = some c') : zi9 C (.next ⟨fr, c :: acs, H⟩) = .next ⟨c', acs, H⟩ := by
 obtain ⟨h1, h2, h3, h4, fn, l, h5, h6, rfl⟩ := hr
 obtain ⟨todo, tm, ffn, n, defers, mode, deferred, round⟩ := fr
 simp only at h1 h2 h3 h4 h6
 subst h1 h2 h3 h4
 show zpm C ⟨todo, tm, _⟩ (c :: acs) H = _
 unfold zpm; rw [h5, zac, h6]; simp only [cond_false]; rw [hf]; rfl
theorem zsi (hφ : zou C φ) {r : ztd} {H : zai} {K : zab -> zai -> zb8} (h : zj0 φ r H K = some x) {fr : zav}
  (hK : ∀ v H' c', zcr fr v = some c' -> K v H' = some x -> Fin C f acs (.next ⟨c', acs, H'⟩) x) (hfin : ∀ v, ∃ c', zcr fr v = some c') : Fin C f acs (zn2 r C fr acs H) x := by
 cases r <;> simp only [zj0] at h <;> try (cases h; done)
 case val v H' =>
  have h2 : K v H' = some x := h
  obtain ⟨c', hc⟩ := hfin v
  show Fin C f acs (zzgu v H' C fr acs H) x
  unfold zzgu; rw [hc]; exact hK _ _ _ hc h2
 case enter g args =>
  rw [zad] at h; obtain ⟨p, h1, h4⟩ := h
  obtain ⟨c', hc⟩ := hfin p.1
  show Fin C f acs (zvw g args C fr acs H) x
  unfold zvw; obtain ⟨ge, he, r0⟩ := hφ _ _ _ _ h1
  obtain ⟨fr', r1, r2⟩ := r0 (fr :: acs)
  rw [he]; refine Fin.of (r1.trans (.step ?_)) (hK _ _ _ hc h4)
  rw [zzhu r2 hc]; exact .refl _
theorem z3d (hφ : zou C φ) (hR : R.mode.running = true) (hN : R.n = N) {κn : Tm -> zai -> zb8} (hκ : ∀ tm H, κn tm H = some x -> Fin C f acs (.next ⟨⟨k, tm, R⟩, acs, H⟩) x) :
  ∀ (l : List Oper) (tm : Tm) (H : zai), zxo C φ all N κn l tm H = some x -> Fin C f acs (zli C all k R acs l tm H) x := by
 intro l; induction l with
 | nil => exact fun tm H h => hκ tm H h
 | cons o l ih =>
  intro tm H h; rw [ziq, zad] at h; obtain ⟨w, h1, h⟩ := h
  rw [zlw, h1]
  cases w with
  | false => rw [if_neg (by simp)] at h; simp only []; rw [hN]; exact ih _ _ h
  | true =>
   rw [if_pos rfl] at h; simp only []; generalize (aop o.op).f C (.now tm) H = r at h
   cases hv : r.asVal with
   | some p =>
    have : r = .val p.1 p.2 := by cases r <;> simp [ztd.asVal] at hv; rw [<- hv]
    subst this; simp only [zj0, zcn] at h; obtain ⟨h2, h3⟩ := h
    simp only []; rw [hN]; exact ih _ _ h3
   | none =>
    refine zsi hφ h (fun v H' c' hc hK => ?_) fun v => ⟨⟨.ops all l :: k, putA R.n tm o.dst v, R⟩, by unfold zcr; simp only [hR, cond_true]; rfl⟩
    unfold zcr at hc; simp only [hR, cond_true] at hc; have hc : some (⟨.ops all l :: k, putA R.n tm o.dst v, R⟩ : zav) = some c' := hc
    cases hc; refine .step ?_
    rw [zd5 hR, hN]; rw [zcn] at hK; exact ih _ _ hK.2
theorem zog {H : zai} {old : Tm} {olds : List (Nat × List Nat)} {K : Tm -> zb8} : ∀ (l : List Nat) (tm : Tm), zci C H all N old olds K l tm = some x -> ∃ tm', zhg C H all N old olds l tm = some tm' /\ K tm' = some x := by
 intro l; induction l with
 | nil => exact fun tm h => ⟨tm, rfl, h⟩
 | cons i l ih =>
  intro tm h; rw [zh5, zad] at h; obtain ⟨o, h1, h⟩ := h
  rw [zad] at h; obtain ⟨w, h2, h⟩ := h
  unfold zhg; rw [h1, zac, h2, zac]
  cases w with
  | false => rw [if_neg (by simp)] at h; simp only [cond_false, zac]; exact ih _ h
  | true =>
   rw [if_pos rfl, zad] at h; obtain ⟨v, h3, h⟩ := h
   rw [zcn] at h; obtain ⟨h4, h⟩ := h
   simp only [cond_true]; rw [h3, zac]; exact ih _ h
theorem ztu (hφ : zou C φ) (hR : R.mode.running = true) (hN : R.n = N) {κn : Tm -> zai -> zb8} (hκ : ∀ tm H, κn tm H = some x -> Fin C f acs (.next ⟨⟨k, tm, R⟩, acs, H⟩) x) {old : Tm} {olds : List (Nat × List Nat)} :
  ∀ (l : List zd4) (tm : Tm) (H : zai), zcq C φ all N old olds κn l tm H = some x -> Fin C f acs (.next ⟨⟨.reg all old olds l :: k, tm, R⟩, acs, H⟩) x := by
 intro l; induction l with
 | nil =>
  intro tm H h; refine .step ?_
  rw [zd5 hR]; exact hκ tm H h
 | cons st l ih =>
  intro tm H h; rw [ze1, zad] at h; obtain ⟨o, h1, h⟩ := h
  rw [zad] at h; obtain ⟨w, h2, h⟩ := h
  have back0 : ∀ v H' c', zcr (⟨.reg all old olds (st :: l) :: k, tm, R⟩ : zav) v = some c' →
    zfo C H' all old olds (putA N tm o.dst v) (zci C H' all N old olds (fun tm => zcq C φ all N old olds κn l tm H') st.lights (putA N tm o.dst v)) st.again = some x -> Fin C f acs (.next ⟨c', acs, H'⟩) x := by
   intro v H' c' hc hK; unfold zcr at hc; simp only [hR, cond_true] at hc; have hc : (ob (ze7 all.toList st.heavy) fun o => some (⟨.reg all old olds (⟨all.size, st.lights, st.again⟩ :: l) :: k, putA R.n tm o.dst v, R⟩ : zav)) = some c' := hc
   rw [h1, zac] at hc
   cases hc; refine .step ?_
   rw [zd5 hR, hN]; obtain ⟨ha, hl⟩ := zjn _ hK
   obtain ⟨tm', hl1, hl2⟩ := zog _ _ hl
   show Fin C f acs (zza0 all old olds (⟨all.size, st.lights, st.again⟩ :: l) C k (putA N tm o.dst v) R acs H') x
   unfold zza0; have : ze7 all.toList all.size = none := by rw [zbh]; simp
   simp only [this]; rw [zar, if_neg fun e => by have := zdl.1 e; rw [zbb] at this; simp at this]
   show Fin C f acs (zpg all old olds ⟨all.size, st.lights, st.again⟩ l C k (putA N tm o.dst v) R acs H') x
   unfold zpg; simp only [ha, hN, hl1, zac]; exact ih _ _ hl2
  have back : ∀ v H' c', zcr (⟨.reg all old olds (st :: l) :: k, tm, R⟩ : zav) v = some c' →
    (zis C o.type v fun v => zfo C H' all old olds (putA N tm o.dst v) (zci C H' all N old olds (fun tm => zcq C φ all N old olds κn l tm H') st.lights (putA N tm o.dst v)) st.again) = some x -> Fin C f acs (.next ⟨c', acs, H'⟩) x := by
   intro v H' c' hc hK; rw [zcn] at hK; exact back0 v H' c' hc hK.2
  refine .step ?_
  rw [zd5 hR]; show Fin C f acs (zza0 all old olds (st :: l) C k tm R acs H) x
  unfold zza0; simp only [h1]; unfold zz8; rw [h2]; simp only []; have hfin : ∀ v, ∃ c', zcr (⟨.reg all old olds (st :: l) :: k, tm, R⟩ : zav) v = some c' := fun v => ⟨⟨.reg all old olds (⟨all.size, st.lights, st.again⟩ :: l) :: k, putA R.n tm o.dst v, R⟩, by
   unfold zcr; simp only [hR, cond_true]; show (ob (ze7 all.toList st.heavy) fun o => some (⟨.reg all old olds (⟨all.size, st.lights, st.again⟩ :: l) :: k, putA R.n tm o.dst v, R⟩ : zav)) = _
   rw [h1]; rfl⟩
  cases w with
  | true =>
   simp only [if_true] at h; exact zsi hφ h back hfin
  | false =>
   simp only [yar, if_false] at h; obtain ⟨c', hc⟩ := hfin zbr
   show Fin C f acs (zzgu zbr H C _ acs H) x
   unfold zzgu; rw [hc]; exact back0 _ _ _ hc h
theorem zzcx {live : List Nat} {tm : Tm} {i : Nat} {v : zab} (h : (keep live tm).get i = some v) : tm.get i = some v := by
 unfold keep Tm.get at h; simp only [zm1] at h; split at h
 case isFalse => cases h
 rename_i hk; have key : ∀ live : List Nat, (zwn tm live).get i = some v -> tm.get i = some v := by
  intro live; induction live with
  | nil => intro h; rw [show zwn tm [] = .leaf from rfl, Tr.get_leaf] at h; cases h
  | cons j live ih =>
   intro h; have h : (match tm.get j with | some v => (zwn tm live).set j v | none => zwn tm live : Tr zab).get i = some v := h
   cases hj : tm.get j with
   | none => rw [hj] at h; exact ih h
   | some u =>
    rw [hj] at h; simp only [] at h; rw [Tr.get_set] at h; split at h
    ·rename_i e; rw [e, hj]; exact h
    ·exact ih h
 exact key live h
theorem zs4 {todo : List zce} (hr : zzcy todo = false) {live : List Nat} {tm : Tm} {H : zai} (h : Fin C f acs (.next ⟨⟨todo, keep live tm, R⟩, acs, H⟩) x) : Fin C f acs (.next ⟨⟨todo, tm, R⟩, acs, H⟩) x :=
 Fin.of (.forget hr (fun _ _ => zzcx) (.refl _)) h
theorem zwu (hR : R.mode.running = true) {t1 t2 : List zce} (h1 : zzcy t1 = false) (hs : ∀ tm H, zul C t1 tm R acs H = zul C t2 tm R acs H) {tm : Tm} {H : zai} (h : Fin C f acs (.next ⟨⟨t2, tm, R⟩, acs, H⟩) x) : Fin C f acs (.next ⟨⟨t1, tm, R⟩, acs, H⟩) x := by
 obtain ⟨fr, hr, hv⟩ := h
 refine ⟨fr, ?_, hv⟩
 generalize ho : (.next ⟨⟨t2, tm, R⟩, acs, H⟩ : zdr) = o at hr
 generalize ho' : (.next ⟨fr, acs, x.2⟩ : zdr) = o' at hr
 induction hr generalizing tm with
 | refl =>
  subst ho'
  cases ho; rw [hv.1] at hR; cases hR
 | step h ih =>
  subst ho; refine .step ?_
  rw [zd5 hR, hs, <- zd5 hR]; exact h
 | forget hr2 hs2 h ih =>
  cases ho; exact .forget h1 hs2 (ih rfl ho')
theorem z9v (hφ : zou C φ) (hR : R.mode.running = true) (hN : R.n = N) (hfn : R.fn = f) : ∀ (c : zdd) (κ : Kt) (k : List zce), SoundK C f acs R κ k x -> ∀ tm H, den C φ f N c κ tm H = some x -> Fin C f acs (.next ⟨⟨.code (ze8 c) :: k, tm, R⟩, acs, H⟩) x := by
 intro c; induction c with
 | skip =>
  intro κ k hκ tm H h; refine .step ?_
  rw [zd5 hR]; exact hκ.norm _ _ h
 | region id ops d =>
  intro κ k hκ tm H h; refine .step ?_
  rw [zd5 hR]
  cases d with
  | false => exact z3d hφ hR hN hκ.norm _ _ _ h
  | true =>
   have h : (ob (ob (C.plans.get f) fun t => t.get id) fun p => zao (zjt ops p) (zci C H ops N tm.cut p.olds (fun tm' => zcq C φ ops N tm.cut p.olds κ.norm p.stages tm' H) p.first tm.cut)) = some x := h
   rw [zad] at h; obtain ⟨p, h1, h⟩ := h
   rw [zae] at h; obtain ⟨tm', hl1, hl2⟩ := zog _ _ h.2
   show Fin C f acs (z4q id ops C k tm R acs H) x
   unfold z4q; rw [hfn, h1, zac, h.1, hN, hl1]; exact ztu hφ hR hN hκ.norm _ _ _ hl2
 | seq a b iha ihb =>
  intro κ k hκ tm H h; refine zwu hR (t1 := .code (ze8 (.seq a b)) :: k) rfl (t2 := .code (ze8 a) :: .code (ze8 b) :: k) (fun _ _ => rfl) ?_
  refine iha ⟨den C φ f N b κ, κ.exit, κ.ret⟩ _ ⟨fun tm H h => ihb _ _ hκ tm H h, fun i tm H h => ?_, hκ.ret⟩ tm H h
  obtain ⟨k', h1, h2⟩ := hκ.exit i tm H h
  exact ⟨k', h1, h2⟩
 | cond c a b iha ihb =>
  intro κ k hκ tm H h; have h : (ob (ob (ev c (.now tm)) zab.asBool) fun t => Bool.rec (motive := fun _ => zb8) (den C φ f N b κ tm H) (den C φ f N a κ tm H) t) = some x := h
  rw [zad] at h; obtain ⟨t, h1, h⟩ := h
  refine .step ?_
  rw [zd5 hR]; show Fin C f acs (z4r c (ze8 a) (ze8 b) C k tm R acs H) x
  unfold z4r; rw [h1]
  cases t with
  | true => exact iha _ _ hκ _ _ h
  | false => exact ihb _ _ hκ _ _ h
 | block id c ih =>
  intro κ k hκ tm H h; refine .step ?_
  rw [zd5 hR]; have nx : ∀ tm H, κ.norm tm H = some x -> Fin C f acs (.next ⟨⟨.inBlock id :: k, tm, R⟩, acs, H⟩) x := by
   intro tm H h; refine .step ?_
   rw [zd5 hR]; exact hκ.norm _ _ h
  refine ih ⟨κ.norm, fun i tm H => Bool.rec (motive := fun _ => zb8) (κ.exit i tm H) (κ.norm tm H) (Nat.beq id i), κ.ret⟩ _ ⟨nx, fun i tm H h => ?_, hκ.ret⟩ tm H h
  simp only [zm1] at h; unfold zgd; simp only [zce.blockId]; rw [zar]; split at h
  ·rename_i e; rw [if_pos e]; exact ⟨k, rfl, hκ.norm _ _ h⟩
  ·rename_i e; rw [if_neg e]; exact hκ.exit _ _ _ h
 | loop live c ih =>
  intro κ k hκ tm H h; obtain ⟨m, hm⟩ := z74 h
  have it : ∀ (m : Nat) tm H, (Nat.rec (motive := fun _ => Tm -> zai -> zb8) (fun _ _ => none) (fun _ r tm H => den C φ f N c ⟨r, κ.exit, κ.ret⟩ (keep live.kept tm) H) m : Tm -> zai -> zb8) tm H = some x -> Fin C f acs (.next ⟨⟨.inLoop (ze8 c) :: k, tm, R⟩, acs, H⟩) x := by
   intro m; induction m with
   | zero => intro tm H h; cases h
   | succ m ihm =>
    intro tm H h; refine zs4 (live := live.kept) rfl (.step ?_)
    rw [zd5 hR]; exact ih ⟨_, κ.exit, κ.ret⟩ _ ⟨ihm, fun i tm H h => hκ.exit i tm H h, hκ.ret⟩ _ _ h
  exact zwu hR (t1 := .code (ze8 (.loop live c)) :: k) rfl (t2 := .inLoop (ze8 c) :: k) (fun _ _ => rfl) (it m tm H hm)
 | exit id =>
  intro κ k hκ tm H h; obtain ⟨k', h1, h2⟩ := hκ.exit id tm H h
  refine .step ?_
  rw [zd5 hR]; show Fin C f acs (z4p id C k tm R acs H) x
  unfold z4p; rw [h1]; exact h2
 | ret => exact fun κ k hκ tm H h => hκ.ret tm H h k
 | cut live c ih => exact fun κ k hκ tm H h => zs4 rfl (ih κ k hκ _ _ h)
end
end Go.Am
namespace Go.Am
open Go Go.RowKit
def endK (C : Ctx) (fn : Func) (tm : Tm) (H : zai) : zb8 := ob (zjd C H tm fn.results.toList) fun l => some (zlr l, H)
def zza8 (C : Ctx) (fn : Func) : Kt := ⟨endK C fn, fun _ _ _ => none, endK C fn⟩
def zna (C : Ctx) (A : Tr zdd) (φ : Ora) : Ora := fun f args H => ob (A.get f) fun c => ob (C.fns.get f) fun fn => ob (zeo C f args false) fun g => den C φ f fn.ntmps c (zza8 C fn) g.tm H
def zzew (C : Ctx) (A : Tr zdd) : Nat -> Ora
 | 0 => fun _ _ _ => none
 | n + 1 => zna C A (zzew C A n)
def fnV (C : Ctx) (A : Tr zdd) : Ora := fun f args H => lim fun n => zzew C A n f args H
section
variable {C : Ctx} {A : Tr zdd}
theorem zr9 {φ φ' : Ora} (h : OLe φ φ') : OLe (zna C A φ) (zna C A φ') := by
 intro f args H x hx; unfold zna at hx ⊢
 rw [zad] at hx ⊢
 obtain ⟨c, h1, hx⟩ := hx
 refine ⟨c, h1, ?_⟩
 rw [zad] at hx ⊢
 obtain ⟨fn, h2, hx⟩ := hx
 refine ⟨fn, h2, ?_⟩
 rw [zad] at hx ⊢
 obtain ⟨g, h3, hx⟩ := hx
 exact ⟨g, h3, zk4 h c _ _ (KLe.refl _) _ _ _ hx⟩
theorem z7o : ∀ n, OLe (zzew C A n) (zzew C A (n + 1)) := by
 intro n; induction n with
 | zero => intro f args H x h; cases h
 | succ n ih => exact zr9 ih
theorem zmu {f : Nat} {args : List zab} {H : zai} {x : zab × zai} : fnV C A f args H = some x ↔ ∃ n, zzew C A n f args H = some x :=
 zo6 fun n _ hy => z7o n _ _ _ _ hy
theorem zzh1 : zzfz (zzew C A) (fnV C A) := ⟨z7o, fun _ _ _ _ h => zmu.1 h⟩
theorem fnV_eq (f : Nat) (args : List zab) (H : zai) : fnV C A f args H = zna C A (fnV C A) f args H := by
 have key : ∀ x, fnV C A f args H = some x ↔ zna C A (fnV C A) f args H = some x := by
  intro x; constructor
  ·intro h
   obtain ⟨n, hn⟩ := zmu.1 h
   cases n with
   | zero => cases hn
   | succ n => exact zr9 (fun f a H y hy => zmu.2 ⟨n, hy⟩) _ _ _ _ hn
  ·intro h
   unfold zna at h; rw [zad] at h; obtain ⟨c, h1, h⟩ := h
   rw [zad] at h; obtain ⟨fn, h2, h⟩ := h
   rw [zad] at h; obtain ⟨g, h3, h⟩ := h
   have sup : SupK (fun _ => zza8 C fn) (zza8 C fn) := ⟨⟨fun _ _ _ _ h => h, fun _ _ _ h => ⟨0, h⟩⟩, fun i => ⟨fun _ _ _ _ h => h, fun _ _ _ h => ⟨0, h⟩⟩, ⟨fun _ _ _ _ h => h, fun _ _ _ h => ⟨0, h⟩⟩⟩
   obtain ⟨n, hn⟩ := (z9u zzh1 c _ _ sup).ex _ _ _ h
   refine zmu.2 ⟨n + 1, ?_⟩
   show zna C A (zzew C A n) f args H = some x
   unfold zna; rw [h1, zac, h2, zac, h3, zac]; exact hn
 cases h : fnV C A f args H with
 | some x => exact ((key x).1 h).symm
 | none =>
  cases h2 : zna C A (fnV C A) f args H with
  | none => rfl
  | some x => rw [(key x).2 h2] at h; cases h
def zl4 (C : Ctx) (A : Tr zdd) : Prop := ∀ f c, A.get f = some c -> ∃ fn, C.fns.get f = some fn /\ fn.body = some (ze8 c)
theorem zzm {f : Nat} {args : List zab} {g : zav} (h : zeo C f args false = some g) : ∃ fn c, C.fns.get f = some fn /\ fn.body = some c /\ g.todo = [.code c] /\ g.R = ⟨f, fn.ntmps, [], .run, false, none⟩ := by
 unfold zeo at h; simp only [zad, zae] at h; obtain ⟨fn, h1, c, h2, k, h3, _, h⟩ := h
 cases h; exact ⟨fn, c, h1, h2, rfl, rfl⟩
theorem z19 {f : Nat} {fn : Func} {acs : List zav} {x : zab × zai} (hf : C.fns.get f = some fn) {tm : Tm} {H : zai} (h : endK C fn tm H = some x) {todo : List zce} {R : zgf} (hR : R = ⟨f, fn.ntmps, [], .run, false, none⟩)
  (hs : zul C todo tm R acs H = .next ⟨zp2 ⟨todo, tm, R⟩ .returning, acs, H⟩) : Fin C f acs (.next ⟨⟨todo, tm, R⟩, acs, H⟩) x := by
 unfold endK at h; rw [zad] at h; obtain ⟨l, h1, h2⟩ := h
 cases h2; refine .step ?_
 rw [zd5 (by rw [hR]; rfl), hs]
 subst hR; exact ⟨_, .refl _, rfl, rfl, rfl, rfl, fn, l, hf, h1, rfl⟩
theorem zyd (hA : zl4 C A) {φ : Ora} (hφ : zou C φ) : zou C (zna C A φ) := by
 intro f args H x h; unfold zna at h; rw [zad] at h; obtain ⟨c, h1, h⟩ := h
 rw [zad] at h; obtain ⟨fn, h2, h⟩ := h
 rw [zad] at h; obtain ⟨g, h3, h⟩ := h
 refine ⟨g, h3, fun acs => ?_⟩
 obtain ⟨fn', c', e1, e2, e3, e4⟩ := zzm h3
 rw [h2] at e1; cases e1
 obtain ⟨fn', e5, e6⟩ := hA f c h1
 rw [h2] at e5; cases e5
 rw [e2] at e6; cases e6
 obtain ⟨gt, gtm, gR⟩ := g
 simp only at e3 e4 h
 subst e3; have := z9v (acs := acs) (R := gR) (x := x) hφ (by rw [e4]; rfl) (by rw [e4]) (by rw [e4]) c (zza8 C fn) [] ⟨?_, ?_, ?_⟩ gtm H h
 ·exact this
 ·intro tm H h
  exact z19 h2 h e4 (by rw [e4]; rfl)
 ·intro i tm H h
  cases h
 ·intro tm H h k'
  exact z19 h2 h e4 (by rw [e4]; rfl)
theorem z3g (hA : zl4 C A) : ∀ n, zou C (zzew C A n) := by
 intro n; induction n with
 | zero => intro f args H x h; cases h
 | succ n ih => exact zyd hA ih
theorem z9f (hA : zl4 C A) : zou C (fnV C A) := by
 intro f args H x h; obtain ⟨n, hn⟩ := zmu.1 h
 exact z3g hA n _ _ _ _ hn
theorem zw5 {P : Program} {B N : Nat} {I : World -> Prop} {μ : Mu} {w : World} (hS : Sim P C B N I) (hI : I w) (hA : zl4 C A) {f : Nat} {args : List zab} {args' : Array Value} {H H' : zai} {v : zab} (hH : zb0 B N μ H w) (hl : zby μ args args'.toList)
  (h : fnV C A f args H = some (v, H')) : Calls P f args' w fun e w' => ∃ v' μ', e = .returned v' /\ μ.lw μ' /\ zaq μ' v v' /\ zb0 B N μ' H' w' /\ Below N w w' := by
 intro base; obtain ⟨g, he, hr⟩ := z9f hA _ _ _ _ h
 obtain ⟨fr', r1, h1, h2, h3, h4, fn, l, h5, h6, rfl⟩ := hr []
 have h0 : zb2 P C B N μ base (lone (Frame.enter P f args' .normal) base w) w (.next ⟨g, [], H⟩) := zzbi hS.fns hH hl he
 obtain ⟨μ', b, cs, w', s1, s2, s3, s4, s5, s6⟩ := zb2.reach hS hI r1 h0
 cases s6
 have hb := s5.body
 rw [if_neg (by rw [h1]; simp [zry.running])] at hb
 obtain ⟨v', q1, q2⟩ := zsg hS.tys s4 hb h6
 have hm := s5.rest.mode
 rw [h1] at hm; have hbm : b.mode = .returning := by
  cases hb : b.mode with
  | returning => rfl
  | _ => rw [hb] at hm; exact hm.elim
 have hd := s5.rest.defers
 rw [h2] at hd; have hbd : b.defers = [] := by
  generalize hx : b.defers = bd at hd
  cases hd; rfl
 have hk := s5.rest.kind
 rw [h3] at hk; have hfn : b.fn = f := by rw [s5.rest.fn, h4]
 exact ⟨.returned v', w', b, ⟨v', μ', rfl, s2, q2, s4, s3⟩, s1, hfn, hbm, hbd, hk, fn, by rw [hfn]; exact (hS.fns _ _ h5).1, q1⟩
end
end Go.Am
namespace Go.Am
open Go Go.RowKit
def zap (C : Ctx) (t : Nat) (H : zai) (v : zab) : Option zab := ob v.asPtr fun p => ob (C.tys.get t) fun ty => ob (za1 H p.1) fun c => znn ty c.1 p.2
def zl6 (C : Ctx) (s d : Nat) (H : zai) (a : zab) : Option zab := ob (C.tys.get s) fun s => ob (C.tys.get d) fun d => znx C s d a H
def zen (C : Ctx) (t : Nat) (H : zai) (a : zab) (l h : Option zab) : Option zab := ob (C.tys.get t) fun ty => zhy C H ty a l h
def zf4 (C : Ctx) (s f : Nat) : Option Nat := ob (C.tys.get s) fun ty => ob ty.desc.asStruct fun fs => ob (ze7 fs f) fun fd => zao (!Nat.beq fd.2.2 0) (some fd.1)
def zaj (C : Ctx) (s f : Nat) (v : zab) : Option zab := ob (zf4 C s f) fun k => ob v.asPtr fun p => some (.ptr p.1 (p.2 + k))
def zaf (C : Ctx) (t : Nat) (v i : zab) : Option zab :=
 ob (C.tys.get t) fun ty => ob i.asNat fun i =>
  match v.asSlice with
  | some s => ob ty.desc.asSlice fun el => ob (C.tys.get el) fun et => zao (Nat.blt i s.2.2.1) (some (.ptr s.1 (s.2.1 + i * et.size)))
  | none => ob v.asPtr fun p => ob ty.desc.asArr fun a => ob (C.tys.get a.2) fun et => zao (Nat.blt i a.1) (some (.ptr p.1 (p.2 + i * et.size)))
def z0a (C : Ctx) (t i : Nat) : Option Nat := ob (C.tys.get t) fun ty => ob ty.desc.asArr fun a => ob (C.tys.get a.2) fun et => zao (Nat.blt i a.1) (some (i * et.size))
def zjq (C : Ctx) (t : Nat) (v i : zab) : Option zab :=
 ob (C.tys.get t) fun ty => ob i.asNat fun i =>
  match v.asStr with
  | some s => zao ty.desc.isString (ob (ze7 s i) fun b => some (.int .u8 (.ofNat b)))
  | none => ob v.asAgg fun l => ob ty.desc.asArr fun a => ob (C.tys.get a.2) fun et => zao (Nat.blt i a.1) (zoy C a.2 l (i * et.size))
def zas (i : Nat) (v : zab) : Option zab := ob v.asTup fun l => ze7 l i
def z4k (C : Ctx) (t : Nat) (H : zai) (v : zab) : Option zab := ob (C.tys.get t) fun ty => ob (z78 H ty v) fun n => some (.int .i64 (.ofNat n))
def zba (v : zab) : Option zab :=
 match v.asSlice with
 | some s => some (.int .i64 (.ofNat s.2.2.1))
 | none => zao (Nat.beq v.tag 5) (some (.int .i64 (.ofNat 0)))
def zrn (v : zab) : Option zab := zao (Nat.beq v.tag 4 || Nat.beq v.tag 9) (some v)
def zx1 (C : Ctx) (u : Nat) (ok : Bool) (v : zab) : Option zab :=
 ob (C.tys.get u) fun ty => zao (Nat.blt ty.desc.tag 9) (
  match v.asIface with
  | some p => bif Nat.beq p.1 u then some (bif ok then .tup [p.2, .bool true] else p.2) else zao ok (some (.tup [zro ty, .bool false]))
  | none => zao (Nat.beq v.tag 12 && ok) (some (.tup [zro ty, .bool false])))
def zia (C : Ctx) (t : Nat) (H : zai) (m k : zab) (ok : Bool) : Option zab :=
 ob (C.tys.get t) fun ty => ob ty.desc.asMap fun ke => ob (C.tys.get ke.1) fun kty => zao (ziw kty.desc) (ob (C.tys.get ke.2) fun ety =>
  ob (zrv H m) fun es => zao (zsx kty.desc k) (ob (zuj k es) fun r =>
   match r with
   | some v => some (bif ok then .tup [v, .bool true] else v)
   | none => some (bif ok then .tup [zro ety, .bool false] else zro ety)))
def zl7 (C : Ctx) (t : Nat) (H : zai) : Option (zab × zai) := ob (C.tys.get t) fun ty => some (.ptr H.next 0, za7 H ty.zero none)
def z44 (v : zab) (H : zai) : Option (zab × zai) := some (.ptr H.next 0, za7 H v.cells none)
def za0 (C : Ctx) (t len : Nat) (ps : List (Nat × zab)) (H : zai) : Option (zab × zai) :=
 ob (C.tys.get t) fun ty => ob ty.desc.asSlice fun el => ob (C.tys.get el) fun et =>
  zao (Nat.blt (len * et.size) 1000000 && Nat.beq (zbw et.zero) et.size) (ob (zoz (fun i => some (i * et.size, et.size)) ps (zsj et.zero len)) fun l => some (.slice H.next 0 len len, za7 H l none))
def zb3 (C : Ctx) (t : Nat) (a v : zab) (H : zai) : Option (zab × zai) := ob (C.tys.get t) fun ty => ob a.asPtr fun p => zao (Nat.beq (zbw v.cells) ty.size) (ob (zhx C H p.1 p.2 v.cells) fun H' => some (zbr, H'))
def zks (H : zai) : Option (zab × zai) := some (.map H.next, newBlk H (.map []))
def zj4 (C : Ctx) (t : Nat) (m k v : zab) (H : zai) : Option (zab × zai) :=
 ob (C.tys.get t) fun ty => ob ty.desc.asMap fun ke => ob (C.tys.get ke.1) fun kty => zao (ziw kty.desc)
  (ob m.asMap fun b => zao (!Nat.blt b C.base) (ob (zgj H b) fun l => zao (zsx kty.desc k) (ob (zjb k v l) fun l' => some (zbr, setBlk H b (.map l')))))
def zch (C : Ctx) (t : Nat) (l c : zab) (H : zai) : Option (zab × zai) :=
 ob (C.tys.get t) fun ty => ob ty.desc.asSlice fun el => ob (C.tys.get el) fun et => ob l.asNat fun l => ob c.asNat fun c =>
  zao (Nat.ble l c && Nat.blt c 1000000 && Nat.blt (c * et.bytes) 1000000000 && Nat.beq (zbw et.zero) et.size) (some (.slice H.next 0 l c, za7 H (zsj et.zero c) none))
def zti (C : Ctx) (s d : Nat) (v : zab) (H : zai) : Option (zab × zai) :=
 ob (C.tys.get s) fun _ => ob (C.tys.get d) fun ty => ob ty.desc.asSlice fun el => ob (C.tys.get el) fun et => ob et.desc.asInt fun k => zao (kEq k .u8) (ob v.asStr fun l =>
  some (.slice H.next 0 (zbw l) (zbw l), za7 H (zfl l) (some 1)))
def zbn (C : Ctx) (t u : Nat) (a b : zab) (H : zai) : Option (zab × zai) := ob (C.tys.get t) fun ty => ob (C.tys.get u) fun uty => zao (!Nat.beq uty.desc.tag 1) (zge C H ty a b)
def vNext (v : zab) (H : zai) : Option (zab × zai) := ob v.asPtr fun p => zao (Nat.beq p.2 0) (ob (ob (H.t.get p.1) zal.asIter) fun x =>
 match ze7 x.1 x.2 with
 | some c => zao (Nat.blt c 128) (some (.tup [.bool true, .int .i64 (.ofNat x.2), .int .i32 (.ofNat c)], setBlk H p.1 (.siter x.1 (x.2 + 1))))
 | none => some (.tup [.bool false], H))
structure zzau where
 b : Nat -> Bool
 i : Nat -> Int
 s : Nat -> List Nat
 v : Nat -> zab
inductive T where
 | ret (v : zab)
 | fail
 | ite (b : Bool) (x y : T)
 | opt (x : Option zab) (K : zab -> T)
 | light (x : Tr zal -> Option zab) (K : zab -> T)
 | heavy (x : zai -> Option (zab × zai)) (K : zab -> T)
 | call (f : Nat) (args : List zab) (K : zab -> T)
 | callv (f : zab) (args : List zab) (K : zab -> T)
 | asI (k : IntKind) (v : zab) (K : Int -> T)
 | asB (v : zab) (K : Bool -> T)
 | asS (v : zab) (K : List Nat -> T)
 | asG (zs : List zab) (v : zab) (K : zzau -> T)
 | jump (i : Nat) (vals : List zab)
def z7r (z : zab) (X : zzau) (j : Nat) : zab :=
 match z with
 | .bool _ => .bool (X.b j)
 | .int k _ => .int k (X.i j)
 | .str _ => .str (X.s j)
 | _ => X.v j
def znj (zs : List zab) (X : zzau) : Nat -> List zab :=
 List.rec (motive := fun _ => Nat -> List zab) (fun _ => []) (fun z _ g j => z7r z X j :: g (j + 1)) zs
def zde (l : List zab) (j : Nat) : Bool := match l[j]? with | some (.bool b) => b | _ => false
def zix (l : List zab) (j : Nat) : Int := match l[j]? with | some (.int _ n) => n | _ => 0
def zil (l : List zab) (j : Nat) : List Nat := match l[j]? with | some (.str s) => s | _ => []
def ze6 (l : List zab) (j : Nat) : zab := match l[j]? with | some v => v | _ => .nilptr
def cellsOf (l : List zab) : zzau := ⟨zde l, zix l, zil l, ze6 l⟩
def zj1 (z a : zab) : Bool :=
 match z with
 | .bool _ => Nat.beq a.tag 0
 | .int k _ => match a.asIntK with | some p => kEq p.1 k | none => false
 | .str _ => Nat.beq a.tag 2
 | .nilptr => Nat.beq a.tag 3 || Nat.beq a.tag 4
 | .nilslice => Nat.beq a.tag 5 || Nat.beq a.tag 6
 | .nilmap => Nat.beq a.tag 7 || Nat.beq a.tag 8
 | .nilfunc => Nat.beq a.tag 10 || Nat.beq a.tag 9
 | .niliface => Nat.beq a.tag 12 || Nat.beq a.tag 11
 | _ => false
def zmv : List zab -> List zab -> Bool
 | [], [] => true
 | z :: zs, a :: l => zj1 z a && zmv zs l
 | _, _ => false
structure TSt where
 tm : Tm
 ad : List (Nat × Nat × Nat)
 lo : Tr (List zab)
 lit : List Nat
abbrev KT := TSt -> T
structure KtT where
 norm : KT
 exit : Nat -> KT
 ret : KT
def obT {α : Type} (x : Option α) (K : α -> T) : T := Option.rec (motive := fun _ => T) .fail K x
def gdT (b : Bool) (K : T) : T := Bool.rec (motive := fun _ => T) .fail K b
def zf7 (i : Nat) (l : List (Nat × Nat × Nat)) : Option (Nat × Nat) :=
 List.rec (motive := fun _ => Option (Nat × Nat)) none (fun a _ g => Bool.rec (motive := fun _ => Option (Nat × Nat)) g (some a.2) (Nat.beq i a.1)) l
inductive zxr where
 | now (ad : List (Nat × Nat × Nat))
 | mixed (ad old : List (Nat × Nat × Nat)) (olds names : List Nat)
def tAd (e : zxr) (t : Nat) : Option (Nat × Nat) :=
 match e with
 | .now ad => zf7 t ad
 | .mixed ad old olds names => bif zcx t names then zf7 t (bif zcx t olds then old else ad) else none
def xAd (e : zxr) (x : Operand) : Option (Nat × Nat) :=
 match x with
 | .tmp t => tAd e t
 | _ => none
def H0A : zai := ⟨0, .leaf⟩
def zlf (C : Ctx) (t : Nat) : Nat :=
 match C.tys.get t with
 | some ty => ty.desc.tag
 | none => 10
def zub (x : Operand) : Bool :=
 match x with
 | .const _ => true
 | _ => false
def z9z (x : Operand) : Bool :=
 match x with
 | .const (.int _ n) => !iEq n 0
 | _ => false
def binDir (C : Ctx) (op : BinOp) (t : Nat) (y : Operand) : Bool :=
 match op with
 | .add => Nat.beq (zlf C t) 1
 | .sub => true
 | .mul => true
 | .quo => z9z y
 | .rem => z9z y
 | .shl => zub y
 | .shr => zub y
 | .eql => Nat.ble (zlf C t) 2
 | .neq => Nat.ble (zlf C t) 2
 | .lss => Nat.ble (zlf C t) 2
 | .leq => Nat.ble (zlf C t) 2
 | .gtr => Nat.ble (zlf C t) 2
 | .geq => Nat.ble (zlf C t) 2
 | _ => false
structure KOp where
 K : zab -> T
 Kd : zab -> T
 KA : Nat -> Nat -> T
def z0k (C : Ctx) (op : Op) (e : Env) (k : KOp) : T := obT ((zb6 op).f C e H0A) k.Kd
def zzbb (C : Ctx) (op : Op) (x : Operand) (e : Env) (ae : zxr) (k : KOp) : T :=
 match xAd ae x with
 | some p => k.KA p.1 p.2
 | none => z0k C op e k
def tLoad (C : Ctx) (t : Nat) (a : Operand) (e : Env) (ae : zxr) (lo : Tr (List zab)) (k : KOp) : T :=
 match xAd ae a with
 | some p => obT (lo.get p.1) fun l => obT (C.tys.get t) fun ty => gdT (Nat.ble (p.2 + ty.size) (zbw l)) (obT (zoy C t l p.2) k.Kd)
 | none => obT (ev a e) fun v => .light (fun m => zap C t ⟨0, m⟩ v) k.K
def zr8 (C : Ctx) (s : Nat) (x : Operand) (f : Nat) (e : Env) (ae : zxr) (k : KOp) : T :=
 match xAd ae x with
 | some p => obT (zf4 C s f) fun o => k.KA p.1 (p.2 + o)
 | none => obT (ev x e) fun v => .opt (zaj C s f v) k.K
def zr7 (C : Ctx) (t : Nat) (x i : Operand) (e : Env) (ae : zxr) (k : KOp) : T :=
 match xAd ae x with
 | some p => obT (ev i e) fun i => obT i.asNat fun i => obT (z0a C t i) fun o => k.KA p.1 (p.2 + o)
 | none => obT (ev x e) fun v => obT (ev i e) fun i => .opt (zaf C t v i) k.K
def tNil (x : Operand) (e : Env) (ae : zxr) (k : KOp) : T :=
 match xAd ae x with
 | some p => k.KA p.1 p.2
 | none => obT (ev x e) fun v => .opt (zrn v) k.K
def tLen (C : Ctx) (c : Call) (e : Env) (k : KOp) : T :=
 obT (ze7 c.argTypes.toList 0) fun t => obT (ze7 c.args.toList 0) fun x => obT (ev x e) fun v =>
  bif Nat.beq (zlf C t) 4 then .opt (zba v) k.K else bif Nat.beq (zlf C t) 6 then .light (fun m => z4k C t ⟨0, m⟩ v) k.K else obT (z4k C t H0A v) k.Kd
def tBin (C : Ctx) (op : BinOp) (t : Nat) (x y : Operand) (u : Nat) (e : Env) (k : KOp) : T :=
 bif binDir C op t y then z0k C (.binOp op t x y u) e k else obT (ev x e) fun a => obT (ev y e) fun b => .opt ((zxd op).f C t x y a b) k.K
def zzgd (C : Ctx) (s d : Nat) (x : Operand) (e : Env) (k : KOp) : T :=
 bif Nat.beq (zlf C d) 2 then (bif Nat.beq (zlf C s) 2 then z0k C (.convert s d x) e k else obT (ev x e) fun v => .light (fun m => zl6 C s d ⟨0, m⟩ v) k.K) else bif Nat.beq (zlf C d) 1 then z0k C (.convert s d x) e k else .fail
def zzed (C : Ctx) (t : Nat) (x : Operand) (lo hi : Option Operand) (e : Env) (k : KOp) : T :=
 obT (ev x e) fun a => obT (evo lo e) fun l => obT (evo hi e) fun h =>
  bif Nat.beq (zlf C t) 2 then .opt (zen C t H0A a l h) k.K else .light (fun m => zen C t ⟨0, m⟩ a l h) k.K
def zmc (C : Ctx) (c : Call) (e : Env) (k : KOp) : Builtin -> T
 | .len => tLen C c e k
 | .max => z0k C (.call c) e k
 | .min => z0k C (.call c) e k
 | _ => .fail
def zs9 (ty : ATy) (v : zab) : List zab := bif ty.desc.isAgg then v.cells else [v]
def zzdc (cells : List zab) (off size : Nat) (vc : List zab) : Option (List zab) :=
 zao (Nat.beq (zbw vc) size && Nat.ble (off + zbw vc) (zbw cells)) (some (ziu (zqj cells off) (ziu vc (zjw cells (off + zbw vc)))))
def z7c (C : Ctx) (tyAt : Nat -> Option Nat) : List (Nat × zab) -> Option (List (Nat × zab × List zab) × List zab) :=
 List.rec (motive := fun _ => Option (List (Nat × zab × List zab) × List zab)) (some ([], []))
  (fun p _ g => ob (tyAt p.1) fun t => ob (C.tys.get t) fun ty => ob g fun r => some (bif ty.desc.isAgg then ((p.1, p.2, p.2.cells) :: r.1, r.2) else ((p.1, p.2, [p.2]) :: r.1, p.2 :: r.2)))
def zzdd (place : Nat -> Option (Nat × Nat)) : List (Nat × zab × List zab) -> List zab -> Option (List zab) :=
 List.rec (motive := fun _ => List zab -> Option (List zab)) (fun cells => some cells) (fun p _ g cells => ob (place p.1) fun q => ob (zzdc cells q.1 q.2 p.2.2) fun cells => g cells)
def tyAtS (ty : ATy) (i : Nat) : Option Nat :=
 match ty.desc.asStruct with
 | some fs => ob (ze7 fs i) fun x => some x.2.1
 | none => ob ty.desc.asArr fun a => some a.2
def zsm (C : Ctx) (ty : ATy) (i : Nat) : Option (Nat × Nat) :=
 match ty.desc.asStruct with
 | some fs => ob (ze7 fs i) fun x => some (x.1, x.2.2)
 | none => ob ty.desc.asArr fun a => ob (C.tys.get a.2) fun et => some (i * et.size, et.size)
def zxb (C : Ctx) (ty : ATy) : Bool :=
 match ty.desc.asStruct with
 | some _ => true
 | none => match ty.desc.asArr with
  | some a => (match C.tys.get a.2 with | some _ => true | none => false)
  | none => false
def zzef (C : Ctx) (t : Nat) (ps : Array (Nat × Operand)) (e : Env) (k : KOp) : T :=
 obT (C.tys.get t) fun ty => gdT (zxb C ty) <| obT (evp ps.toList e) fun vs => obT (z7c C (tyAtS ty) vs) fun q => obT (zzdd (zsm C ty) q.1 ty.zero) fun l => .ite (zeb zab.one q.2) (k.Kd (.agg l)) .fail
def tL (C : Ctx) (op : Op) (e : Env) (ae : zxr) (lo : Tr (List zab)) (k : KOp) : T :=
 match op with
 | .move x => zzbb C (.move x) x e ae k
 | .assign x => zzbb C (.assign x) x e ae k
 | .load t a => tLoad C t a e ae lo k
 | .fieldAddr s x f => zr8 C s x f e ae k
 | .indexAddr t x i => zr7 C t x i e ae k
 | .nilCheck x => tNil x e ae k
 | .binOp op t x y u => tBin C op t x y u e k
 | .convert s d x => zzgd C s d x e k
 | .slice t x lo hi none => zzed C t x lo hi e k
 | .index t x i => bif zub i && Nat.beq (zlf C t) 5 then z0k C (.index t x i) e k else obT (ev x e) fun v => obT (ev i e) fun i => .opt (zjq C t v i) k.K
 | .extract t i => obT (ev t e) fun v => .opt (zas i v) k.K
 | .typeAssert x _ u ok => obT (ev x e) fun v => .opt (zx1 C u ok v) k.K
 | .lookup t x i ok => obT (ev x e) fun m => obT (ev i e) fun key => .light (fun h => zia C t ⟨0, h⟩ m key ok) k.K
 | .call c => match c.callee with
  | .builtin b => zmc C c e k b
  | _ => .fail
 | .pick c a b => z0k C (.pick c a b) e k
 | .unOp o t x => (match o with
  | .xor => obT (ev x e) fun v => .opt (zx3 v) k.K
  | o => z0k C (.unOp o t x) e k)
 | .makeInterface t x => z0k C (.makeInterface t x) e k
 | .makeFunc fn a b => z0k C (.makeFunc fn a b) e k
 | .field t x f => z0k C (.field t x f) e k
 | .build t ps => zzef C t ps e k
 | _ => .fail
def laOf (la : List Nat) (dst : Option Nat) : Option Nat :=
 match dst with
 | some d => bif zcx d la then some d else none
 | none => none
structure KLo where
 new : Nat -> List zab -> T
 set : Nat -> List zab -> T
def zzee (f : Operand) (args : Array Operand) (e : Env) (k : KOp) : T :=
 match f with
 | .func g => obT (evs args.toList e) fun as => .call g as k.K
 | f => obT (ev f e) fun fv => obT (evs args.toList e) fun as => .callv fv as k.K
def two' (c : Call) (e : Env) (K : zab -> zab -> T) : T := obT (two c e) fun p => K p.1 p.2
def zvi (C : Ctx) (c : Call) (e : Env) (k : KOp) : Builtin -> T
 | .append => obT (ze7 c.argTypes.toList 0) fun t => obT (ze7 c.argTypes.toList 1) fun u => two' c e fun a b => .heavy (zbn C t u a b) k.K
 | b => zmc C c e k b
def zzec (C : Ctx) (t : Nat) (a x : Operand) (e : Env) (ae : zxr) (lo : Tr (List zab)) (k : KOp) (kl : KLo) : T :=
 match xAd ae a with
 | some p => obT (ev x e) fun v => obT (C.tys.get t) fun ty => obT (lo.get p.1) fun l => obT (zzdc l p.2 ty.size (zs9 ty v)) fun l' => .ite (zeb zab.one (zs9 ty v)) (kl.set p.1 l') .fail
 | none => obT (ev a e) fun a => obT (ev x e) fun v => .heavy (zb3 C t a v) k.Kd
def tH (C : Ctx) (la : List Nat) (dst : Option Nat) (op : Op) (e : Env) (ae : zxr) (lo : Tr (List zab)) (k : KOp) (kl : KLo) : T :=
 match op with
 | .box t x => obT (ev x e) fun v => (match laOf la dst with
  | some d => obT (C.tys.get t) fun ty => bif ty.desc.isAgg then kl.new d v.cells else .ite (zab.one v) (kl.new d [v]) .fail
  | none => .heavy (z44 v) k.K)
 | .alloc t => (match laOf la dst with
  | some d => obT (C.tys.get t) fun ty => kl.new d ty.zero
  | none => .heavy (zl7 C t) k.K)
 | .store t a x => zzec C t a x e ae lo k kl
 | .buildSlice t len ps => obT (evp ps.toList e) fun ps => .heavy (za0 C t len ps) k.K
 | .makeMap _ none => .heavy zks k.K
 | .insert t m key x => obT (ev m e) fun m => obT (ev key e) fun key => obT (ev x e) fun v => .heavy (zj4 C t m key v) k.Kd
 | .mapUpdate t m key x => obT (ev m e) fun m => obT (ev key e) fun key => obT (ev x e) fun v => .heavy (zj4 C t m key v) k.Kd
 | .makeSlice t l c => obT (ev l e) fun l => obT (ev c e) fun c => .heavy (zch C t l c) k.K
 | .convert s d x => bif Nat.beq (zlf C d) 4 then obT (ev x e) fun v => .heavy (zti C s d v) k.K else zzgd C s d x e k
 | .call c => match c.callee with
  | .value f => zzee f c.args e k
  | .builtin b => zvi C c e k b
  | _ => .fail
 | op => tL C op e ae lo k
def rmNat (i : Nat) (l : List Nat) : List Nat := List.rec (motive := fun _ => List Nat) [] (fun j _ g => bif Nat.beq i j then g else j :: g) l
def z2w (n : Nat) (dst : Option Nat) (v : zab) (lt : Bool) (st : TSt) (κ : KT) : T :=
 match dst with
 | none => κ st
 | some d => bif Nat.blt d n then gdT (zez (zf7 d st.ad)) (κ ⟨st.tm.set d v, st.ad, st.lo, bif lt then d :: rmNat d st.lit else rmNat d st.lit⟩) else κ st
def zzgb (n : Nat) (dst : Option Nat) (d off : Nat) (st : TSt) (κ : KT) : T :=
 obT dst fun i => gdT (Nat.blt i n) (gdT (zez (st.tm.get i)) (κ ⟨st.tm, (i, d, off) :: st.ad, st.lo, st.lit⟩))
def zzex (d : Nat) (ad : List (Nat × Nat × Nat)) : Bool := zeb (fun a => bif Nat.beq a.2.1 d then Nat.beq a.1 d else true) ad
def tNew (n : Nat) (d : Nat) (l : List zab) (st : TSt) (κ : KT) : T :=
 gdT (Nat.blt d n) (gdT (zez (st.tm.get d)) (gdT (zzex d st.ad) (κ ⟨st.tm, (d, d, 0) :: st.ad, st.lo.set d l, st.lit⟩)))
def fitB (C : Ctx) (t : Nat) (v : zab) : Bool :=
 match C.tys.get t with
 | some ty => (match ty.desc with
  | .bool => Nat.beq v.tag 0
  | .int k => (match v.asIntK with | some p => kEq p.1 k | none => false)
  | .string => Nat.beq v.tag 2
  | _ => true)
 | none => true
def z5n (C : Ctx) (t : Nat) (v : zab) (K : zab -> T) : T :=
 match C.tys.get t with
 | some ty => (match ty.desc with
  | .bool => .asB v fun b => K (.bool b)
  | .int k => .asI k v fun n => K (.int k n)
  | .string => .asS v fun s => K (.str s)
  | .struct _ => bif Nat.ble (zbw ty.zero) 40 then .asG ty.zero v fun X => K (.agg (znj ty.zero X 0)) else K v
  | .arr _ _ => bif Nat.ble (zbw ty.zero) 40 then .asG ty.zero v fun X => K (.agg (znj ty.zero X 0)) else K v
  | _ => K v)
 | none => K v
def zze1 (x : Operand) (lit : List Nat) : Bool :=
 match x with
 | .tmp t => lit.contains t
 | .const _ => true
 | _ => false
def zzcl (op : Op) (e : Env) (lit : List Nat) : Bool :=
 match op with
 | .move x => zze1 x lit
 | .assign x => zze1 x lit
 | .unOp _ _ x => zze1 x lit
 | .pick c a b => bif zze1 c lit then (match ob (ev c e) zab.asBool with
  | some w => bif w then zze1 a lit else zze1 b lit
  | none => false) else false
 | _ => false
def zua (all : List Oper) (dst : Option Nat) (l : List Oper) : Bool :=
 match dst with
 | none => false
 | some d => !zeb (fun o => match o.guard with
  | some g => (match ob (ze7 all g.1) fun p => p.dst with | some i => !Nat.beq i d | none => true)
  | none => true) l
def zr6 (g lt : Bool) (v : zab) (K : zab -> Bool -> T) : T :=
 bif g then (bif lt then K v true else obT v.asBool fun b => .ite b (K (.bool true) true) (K (.bool false) true)) else K v lt
def kop (C : Ctx) (all : Array Oper) (n : Nat) (o : Oper) (e : Env) (st : TSt) (κ : KT) : KOp :=
 ⟨fun v => z5n C o.type v fun v => zr6 (zua all.toList o.dst all.toList) (zzcl o.op e st.lit) v fun v lt => z2w n o.dst v lt st κ,
  fun v => gdT (fitB C o.type v) (zr6 (zua all.toList o.dst all.toList) (zzcl o.op e st.lit) v fun v lt => z2w n o.dst v lt st κ),
  fun d off => gdT (!Nat.ble (zlf C o.type) 2) (zzgb n o.dst d off st κ)⟩
def klo (C : Ctx) (n : Nat) (o : Oper) (st : TSt) (κ : KT) : KLo :=
 ⟨fun d l => gdT (!Nat.ble (zlf C o.type) 2) (tNew n d l st κ),
  fun d l => gdT (fitB C o.type zbr) (z2w n o.dst zbr false ⟨st.tm, st.ad, st.lo.set d l, st.lit⟩ κ)⟩
def Env.adCut (k : Nat) (l : List (Nat × Nat × Nat)) : List (Nat × Nat × Nat) := l.filter fun a => Nat.blt a.1 k
def TSt.cut (st : TSt) : TSt := ⟨st.tm.cut, Env.adCut st.tm.k st.ad, st.lo, st.lit⟩
def tops (C : Ctx) (la : List Nat) (all : Array Oper) (n : Nat) (κ : KT) (l : List Oper) : KT :=
 List.rec (motive := fun _ => KT) κ
  (fun o _ g st => obT (zbd o.guard all st.tm) fun w => Bool.rec (motive := fun _ => T) (z2w n o.dst zbr false st g)
   (tH C la o.dst o.op (.now st.tm) (.now st.ad) st.lo (kop C all n o (.now st.tm) st g) (klo C n o st g)) w) l
def z4l (st old : TSt) (olds : List Nat) (op : Op) : Env := .mixed st.tm old.tm olds (zb4 op)
def zzg8 (st old : TSt) (olds : List Nat) (op : Op) : zxr := .mixed st.ad old.ad olds (zb4 op)
def zi7 (C : Ctx) (all : Array Oper) (n : Nat) (old : TSt) (olds : List (Nat × List Nat)) (κ : KT) (l : List Nat) : KT :=
 List.rec (motive := fun _ => KT) κ
  (fun i _ g st => obT (ze7 all.toList i) fun o => obT (zbd o.guard all st.tm) fun w => Bool.rec (motive := fun _ => T) (z2w n o.dst zbr false st g)
   (tL C o.op (z4l st old (zc1 i olds) o.op) (zzg8 st old (zc1 i olds) o.op) st.lo (kop C all n o (z4l st old (zc1 i olds) o.op) st g)) w) l
def zma (C : Ctx) (all : Array Oper) (old : TSt) (olds : List (Nat × List Nat)) (st : TSt) (k : T) (l : List Nat) : T :=
 List.rec (motive := fun _ => T) k
  (fun i _ g => obT (ze7 all.toList i) fun o => obT o.dst fun d => obT (zbd o.guard all st.tm) fun w => Bool.rec (motive := fun _ => T) g
   (obT (st.tm.get d) fun u => gdT (fitB C o.type u) (tL C o.op (z4l st old (zc1 i olds) o.op) (zzg8 st old (zc1 i olds) o.op) st.lo ⟨fun v => .ite (same 10 v u) g .fail, fun v => .ite (same 10 v u) g .fail, fun _ _ => .fail⟩)) w) l
def zpp (C : Ctx) (all : Array Oper) (n : Nat) (old : TSt) (olds : List (Nat × List Nat)) (κ : KT) (l : List zd4) : KT :=
 List.rec (motive := fun _ => KT) κ
  (fun s _ g st => obT (ze7 all.toList s.heavy) fun o => obT (zbd o.guard all st.tm) fun w =>
   (fun cont : KT => Bool.rec (motive := fun _ => T) (z2w n o.dst zbr false st cont)
    (tH C [] o.dst o.op (z4l st old (zc1 s.heavy olds) o.op) (zzg8 st old (zc1 s.heavy olds) o.op) st.lo (kop C all n o (z4l st old (zc1 s.heavy olds) o.op) st cont) (klo C n o st cont)) w)
   (fun st' => zma C all old olds st' (zi7 C all n old olds g s.lights st') s.again)) l
def z5f (C : Ctx) (la : List Nat) (fn n : Nat) (κ : KT) (id : Nat) (all : Array Oper) (draw : Bool) : KT :=
 Bool.rec (motive := fun _ => KT) (fun st => tops C la all n κ all.toList st.cut)
  (fun st => obT (ob (C.plans.get fn) fun t => t.get id) fun p => gdT (zjt all p) (zi7 C all n st.cut p.olds (zpp C all n st.cut p.olds κ p.stages) p.first st.cut)) draw
def zr1 (st : TSt) (ll : List (Nat × Nat)) : Option (List zab) :=
 List.rec (motive := fun _ => Option (List zab)) (some []) (fun p _ g => ob (zf7 p.1 st.ad) fun a => zao (Nat.beq a.1 p.1 && Nat.beq a.2 0) (ob (st.lo.get p.1) fun l => zao (Nat.beq (zbw l) p.2) (ob g fun r => some (ziu l r)))) ll
def zr0 (p : PI) (st : TSt) : Option (List zab) := ob (zga (fun i => st.tm.get i) p.pl) fun a => ob (zr1 st p.ll) fun b => some (ziu a b)
def zzax (ll : List (Nat × Nat)) : List zab -> Tr (List zab) :=
 List.rec (motive := fun _ => List zab -> Tr (List zab)) (fun _ => .leaf) (fun p _ g vals => (g (zjw vals p.2)).set p.1 (zqj vals p.2)) ll
def zzek (pl : List Nat) : List zab -> Tr zab :=
 List.rec (motive := fun _ => List zab -> Tr zab) (fun _ => .leaf) (fun i _ g vals => List.rec (motive := fun _ => Tr zab) .leaf (fun v vals _ => (g vals).set i v) vals) pl
def stAd (ll : List (Nat × Nat)) : List (Nat × Nat × Nat) := List.rec (motive := fun _ => List (Nat × Nat × Nat)) [] (fun p _ g => (p.1, p.1, 0) :: g) ll
def stAt (k : Nat) (p : PI) (vals : List zab) : TSt := ⟨⟨k, zzek p.pl vals, []⟩, stAd p.ll, zzax p.ll (zjw vals (zbw p.pl)), []⟩
def z0g (C : Ctx) (la : List Nat) (fn n : Nat) (c : zdd) : KtT -> KT :=
 zdd.rec (motive := fun _ => KtT -> KT)
  (fun κ st => κ.norm st)
  (fun id all draw κ => z5f C la fn n κ.norm id all draw)
  (fun _ _ ga gb κ => ga ⟨gb κ, κ.exit, κ.ret⟩)
  (fun c _ _ gx gy κ st => obT (ob (ev c (.now st.tm)) zab.asBool) fun b => bif zze1 c st.lit then Bool.rec (motive := fun _ => T) (gy κ st) (gx κ st) b else .ite b (gx κ st) (gy κ st))
  (fun id _ g κ => g ⟨κ.norm, fun i st => Bool.rec (motive := fun _ => T) (κ.exit i st) (κ.norm st) (Nat.beq id i), κ.ret⟩)
  (fun p _ _ _ st => obT (zr0 p st) fun vals => .jump p.id vals)
  (fun id κ st => κ.exit id st)
  (fun κ st => κ.ret st)
  (fun p _ _ _ st => obT (zr0 p st) fun vals => .jump p.id vals) c
structure PtT where
 p : PI
 tree : List zab -> T
def z3p (p : PI) : KT := fun st => obT (zr0 p st) fun vals => .jump p.id vals
def zj9 (C : Ctx) (la : List Nat) (fn n k : Nat) (c : zdd) : KtT -> List PtT :=
 zdd.rec (motive := fun _ => KtT -> List PtT)
  (fun _ => [])
  (fun _ _ _ _ => [])
  (fun _ b ga gb κ => ziu (ga ⟨z0g C la fn n b κ, κ.exit, κ.ret⟩) (gb κ))
  (fun _ _ _ gx gy κ => ziu (gx κ) (gy κ))
  (fun id _ g κ => g ⟨κ.norm, fun i st => Bool.rec (motive := fun _ => T) (κ.exit i st) (κ.norm st) (Nat.beq id i), κ.ret⟩)
  (fun p c g κ => ⟨p, fun vals => z0g C la fn n c ⟨z3p p, κ.exit, κ.ret⟩ (stAt k p vals)⟩ :: g ⟨z3p p, κ.exit, κ.ret⟩)
  (fun _ _ => [])
  (fun _ => [])
  (fun p c g κ => ⟨p, fun vals => z0g C la fn n c κ (stAt k p vals)⟩ :: g κ) c
def resT (C : Ctx) (st : TSt) (l : List ResultVar) : (List zab -> T) -> T :=
 List.rec (motive := fun _ => (List zab -> T) -> T) (fun K => K [])
  (fun r _ g K => match r with
   | .tmp t => obT (st.tm.get t) fun v => g fun l => K (v :: l)
   | .cell a t => match zf7 a st.ad with
    | some p => obT (st.lo.get p.1) fun l => obT (C.tys.get t) fun ty => gdT (Nat.ble (p.2 + ty.size) (zbw l)) (obT (zoy C t l p.2) fun v => g fun l => K (v :: l))
    | none => obT (st.tm.get a) fun a => .light (fun m => zap C t ⟨0, m⟩ a) fun v => g fun l => K (v :: l)) l
def endT (C : Ctx) (fn : Func) : KT := fun st => resT C st fn.results.toList fun l => .ret (zlr l)
def topT (C : Ctx) (fn : Func) : KtT := ⟨endT C fn, fun _ _ => .fail, endT C fn⟩
structure zcs where
 code : zdd
 la : List Nat
def entT (C : Ctx) (fn : Func) (k : Nat) (f : Nat) (A : zcs) (args : List zab) : T := z0g C A.la f fn.ntmps A.code (topT C fn) ⟨⟨k, Tr.ofList args, []⟩, [], .leaf, []⟩
def ptsT (C : Ctx) (fn : Func) (k : Nat) (f : Nat) (A : zcs) : List PtT := zj9 C A.la f fn.ntmps k A.code (topT C fn)
def z7b (l : List PtT) (i : Nat) (vals : List zab) : List T := List.rec (motive := fun _ => List T) [] (fun p _ g => bif Nat.beq p.p.id i then p.tree vals :: g else g) l
end Go.Am
namespace Go.Am
open Go Go.RowKit
def zed {α : Type} (x : Option α) (P : α -> Prop) : Prop :=
 match x with
 | some a => P a
 | none => False
theorem zgs {α : Type} {x : Option α} {P : α -> Prop} : zed x P ↔ ∃ a, x = some a /\ P a := by
 cases x with
 | none => simp [zed]
 | some a => simp [zed]
@[simp] theorem zaa {α : Type} {a : α} {P : α -> Prop} : zed (some a) P = P a := rfl
@[simp] theorem optP_none {α : Type} {P : α -> Prop} : zed (none : Option α) P = False := rfl
abbrev zaw := zab -> Tr zal -> Prop
abbrev zhu := Nat -> List zab -> Tr zal -> zaw -> Prop
def zn1 (f : zab) (args : List zab) : Option (Nat × List zab) := ob f.asFunc fun p => match p.1 with
 | .func g => some (g, ziu (ziu p.2.1 args) p.2.2)
 | .yld _ => none
def zzcz (k : IntKind) (v : zab) : Option Int := ob v.asIntK fun p => zao (kEq p.1 k) (some p.2)
def zrc (zs : List zab) (v : zab) : Option zzau := ob v.asAgg fun l => zao (zmv zs l) (some (cellsOf l))
def wpT (base : Nat) (W : zhu) (J : zhu) : T -> Tr zal -> zaw -> Prop
 | .ret v, t, Q => Q v t
 | .fail, _, _ => False
 | .ite b x y, t, Q => if b = true then wpT base W J x t Q else wpT base W J y t Q
 | .opt x K, t, Q => zed x fun v => wpT base W J (K v) t Q
 | .light x K, t, Q => zed (x t) fun v => wpT base W J (K v) t Q
 | .heavy x K, t, Q => ∀ b, t.get b = none -> base <= b -> zed (x ⟨b, t⟩) fun p => wpT base W J (K p.1) p.2.t Q
 | .call f args K, t, Q => W f args t fun v t' => wpT base W J (K v) t' Q
 | .callv f args K, t, Q => zed (zn1 f args) fun p => W p.1 p.2 t fun v t' => wpT base W J (K v) t' Q
 | .asI k v K, t, Q => zed (zzcz k v) fun n => wpT base W J (K n) t Q
 | .asB v K, t, Q => zed v.asBool fun n => wpT base W J (K n) t Q
 | .asS v K, t, Q => zed v.asStr fun n => wpT base W J (K n) t Q
 | .asG zs v K, t, Q => zed (zrc zs v) fun X => wpT base W J (K X) t Q
 | .jump i vals, t, Q => J i vals t Q
abbrev Xt := Nat -> Option zal
def XLe (X Y : Xt) : Prop := ∀ b y, X b = some y -> Y b = some y
theorem XLe.refl (X : Xt) : XLe X X := fun _ _ h => h
theorem XLe.trans {X Y Z : Xt} (h : XLe X Y) (k : XLe Y Z) : XLe X Z := fun b y e => k b y (h b y e)
structure Ov (base : Nat) (t : Tr zal) (X : Xt) (H : zai) : Prop where
 base : base <= H.next
 same : ∀ b, X b = none -> H.t.get b = t.get b
 ext : ∀ b y, X b = some y -> H.t.get b = some y /\ t.get b = none /\ b < H.next
 lt : ∀ b y, t.get b = some y -> b < H.next
def HLe (H H' : zai) : Prop := ∀ b y, H.t.get b = some y -> H'.t.get b = some y
def zo0 (e e' : Env) : Prop := ∀ i v, zzaw i e = some v -> zzaw i e' = some v
section
variable {base : Nat} {t : Tr zal} {X : Xt} {H HA : zai} {e e' : Env} {C : Ctx} {v : zab}
theorem Ov.notX (h : Ov base t X HA) {b : Nat} {y : zal} (hb : t.get b = some y) : X b = none := by
 cases hx : X b with
 | none => rfl
 | some z => have := (h.ext b z hx).2.1; rw [hb] at this; cases this
theorem Ov.up (h : Ov base t X HA) {b : Nat} {y : zal} (hb : t.get b = some y) : HA.t.get b = some y := by rw [h.same b (h.notX hb)]; exact hb
theorem Ov.le (h : Ov base t X HA) {n : Nat} : HLe ⟨n, t⟩ HA := fun _ _ hb => h.up hb
theorem Ov.nextX (h : Ov base t X HA) : X HA.next = none := by
 cases hx : X HA.next with
 | none => rfl
 | some z => exact absurd (h.ext _ z hx).2.2 (Nat.lt_irrefl _)
theorem Ov.nextT (h : Ov base t X HA) : t.get HA.next = none := by
 cases hx : t.get HA.next with
 | none => rfl
 | some z => exact absurd (h.lt _ z hx) (Nat.lt_irrefl _)
theorem zck (h : HLe H HA) {b : Nat} {p : Tr zab × Nat × Option Nat} (hb : za1 H b = some p) : za1 HA b = some p := by
 unfold za1 at hb ⊢; rw [zad] at hb ⊢; obtain ⟨y, h1, h2⟩ := hb; exact ⟨y, h _ _ h1, h2⟩
theorem zfv (h : HLe H HA) {b : Nat} {p : List (zab × zab)} (hb : zgj H b = some p) : zgj HA b = some p := by
 unfold zgj at hb ⊢; rw [zad] at hb ⊢; obtain ⟨y, h1, h2⟩ := hb; exact ⟨y, h _ _ h1, h2⟩
theorem za3 (h : zo0 e e') {x : Operand} (hx : ev x e = some v) : ev x e' = some v := by
 cases x with
 | tmp i => exact h i v hx
 | const c => exact hx
 | global g => exact hx
 | func f => exact hx
theorem zsp {α β : Type} {f g : α -> Option β} : ∀ (l : List α) {r : List β}, (∀ a b, f a = some b -> g a = some b) -> zga f l = some r -> zga g l = some r := by
 intro l; induction l with
 | nil => intro r _ h; exact h
 | cons a l ih =>
  intro r hfg h; rw [zdi, zad] at h ⊢
  obtain ⟨b, h1, h⟩ := h
  refine ⟨b, hfg _ _ h1, ?_⟩
  rw [zad] at h ⊢
  obtain ⟨s, h2, h⟩ := h
  exact ⟨s, ih hfg h2, h⟩
theorem zum (h : zo0 e e') {l : List Operand} {vs : List zab} (hx : evs l e = some vs) : evs l e' = some vs := zsp l (fun _ _ k => za3 h k) hx
theorem z14 (h : zo0 e e') {x : Option Operand} {r : Option zab} (hx : evo x e = some r) : evo x e' = some r := by
 cases x with
 | none => exact hx
 | some x =>
  have hx : ob (ev x e) (fun v => some (some v)) = some r := hx
  show ob (ev x e') (fun v => some (some v)) = some r
  rw [zad] at hx ⊢
  obtain ⟨a, h1, h2⟩ := hx
  exact ⟨a, za3 h h1, h2⟩
theorem zun (h : zo0 e e') {l : List (Nat × Operand)} {vs : List (Nat × zab)} (hx : evp l e = some vs) : evp l e' = some vs :=
 zsp l (fun a b k => by rw [zad] at k ⊢; obtain ⟨u, h1, h2⟩ := k; exact ⟨u, za3 h h1, h2⟩) hx
theorem ztm (h : zo0 e e') {c : Call} {p : zab × zab} (hx : two c e = some p) : two c e' = some p := by
 unfold two at hx ⊢
 split at hx
 ·rw [zad] at hx ⊢
  obtain ⟨a, h1, hx⟩ := hx
  refine ⟨a, za3 h h1, ?_⟩
  rw [zad] at hx ⊢
  obtain ⟨b, h2, hx⟩ := hx
  exact ⟨b, za3 h h2, hx⟩
 ·cases hx
theorem zeg (h : HLe H HA) {ty : Nat} {a : zab} (hx : zap C ty H a = some v) : zap C ty HA a = some v := by
 unfold zap at hx ⊢
 simp only [zad] at hx ⊢
 obtain ⟨p, h1, y, h2, c, h3, h4⟩ := hx
 exact ⟨p, h1, y, h2, c, zck h h3, h4⟩
theorem znw (h : HLe H HA) {s d : ATy} {a : zab} (hx : znx C s d a H = some v) : znx C s d a HA = some v := by
 unfold znx at hx ⊢
 split at hx
 ·rename_i k hk; exact hx
 ·rename_i hk
  rw [zae] at hx ⊢
  refine ⟨hx.1, ?_⟩
  have hx := hx.2
  rw [zar] at hx ⊢
  split at hx
  ·rename_i e; rw [if_pos e]; exact hx
  ·rename_i e
   rw [if_neg e]; simp only [zad, zae] at hx ⊢
   obtain ⟨a1, h1, b1, h2, k1, h3, h4, h5⟩ := hx
   refine ⟨a1, h1, b1, h2, k1, h3, h4, ?_⟩
   unfold zi2 at h5 ⊢
   split at h5
   ·simp only [zad] at h5 ⊢
    obtain ⟨c, g1, g2⟩ := h5
    exact ⟨c, zck h g1, g2⟩
   ·exact h5
theorem z2m (h : HLe H HA) {s d : Nat} {a : zab} (hx : zl6 C s d H a = some v) : zl6 C s d HA a = some v := by
 unfold zl6 at hx ⊢
 simp only [zad] at hx ⊢
 obtain ⟨a1, h1, b1, h2, h3⟩ := hx
 exact ⟨a1, h1, b1, h2, znw h h3⟩
theorem zib (h : HLe H HA) {b size cap l : Nat} {arr : Bool} (hx : zcw H b size cap l arr = true) : zcw HA b size cap l arr = true := by
 unfold zcw at hx ⊢
 cases hc : za1 H b with
 | none => rw [hc] at hx; cases hx
 | some c => rw [hc] at hx; rw [zck h hc]; exact hx
theorem zlu (h : HLe H HA) {ty : ATy} {a : zab} {l r : Option zab} (hx : zhy C H ty a l r = some v) : zhy C HA ty a l r = some v := by
 have row : ∀ {arr e b off len cap}, zd6 C H arr e b off len cap l r = some v -> zd6 C HA arr e b off len cap l r = some v := by
  intro arr e b off len cap hx; unfold zd6 at hx ⊢
  simp only [zad, zae, yac] at hx ⊢
  obtain ⟨a1, h1, b1, h2, ⟨h3, h4⟩, h5⟩ := hx
  exact ⟨a1, h1, b1, h2, ⟨h3, zib h h4⟩, h5⟩
 unfold zhy at hx ⊢
 split at hx
 ·exact hx
 ·split at hx
  ·rw [zad] at hx ⊢; obtain ⟨a1, h1, h2⟩ := hx; exact ⟨a1, h1, row h2⟩
  ·split at hx
   ·rw [zad] at hx ⊢; obtain ⟨a1, h1, h2⟩ := hx; exact ⟨a1, h1, row h2⟩
   ·exact hx
theorem zxz (h : HLe H HA) {ty : Nat} {a : zab} {l r : Option zab} (hx : zen C ty H a l r = some v) : zen C ty HA a l r = some v := by
 unfold zen at hx ⊢
 rw [zad] at hx ⊢
 obtain ⟨a1, h1, h2⟩ := hx
 exact ⟨a1, h1, zlu h h2⟩
theorem znm (h : HLe H HA) {m : zab} {l : List (zab × zab)} (hx : zrv H m = some l) : zrv HA m = some l := by
 unfold zrv at hx ⊢
 split at hx
 ·exact zfv h hx
 ·exact hx
theorem zu9 (h : HLe H HA) {ty : Nat} {m k : zab} {ok : Bool} (hx : zia C ty H m k ok = some v) : zia C ty HA m k ok = some v := by
 unfold zia at hx ⊢
 simp only [zad, zae] at hx ⊢
 obtain ⟨a1, h1, b1, h2, c1, h3, h4, d1, h5, es, h6, h7⟩ := hx
 exact ⟨a1, h1, b1, h2, c1, h3, h4, d1, h5, es, znm h h6, h7⟩
theorem zqn (h : HLe H HA) {ty : ATy} {a : zab} {n : Nat} (hx : z78 H ty a = some n) : z78 HA ty a = some n := by
 unfold z78 at hx ⊢
 split at hx
 ·exact hx
 ·split at hx
  ·exact hx
  ·split at hx
   ·exact hx
   ·split at hx
    ·rw [zae, zad] at hx ⊢
     obtain ⟨h1, l, h2, h3⟩ := hx
     exact ⟨h1, l, zfv h h2, h3⟩
    ·exact hx
theorem z42 (h : HLe H HA) {ty : Nat} {a : zab} (hx : z4k C ty H a = some v) : z4k C ty HA a = some v := by
 unfold z4k at hx ⊢
 simp only [zad] at hx ⊢
 obtain ⟨a1, h1, n, h2, h3⟩ := hx
 exact ⟨a1, h1, n, zqn h h2, h3⟩
theorem z8j {ty : Nat} {a : Operand} : znp ty a C e H = ob (ev a e) fun v => zap C ty H v := rfl
theorem z8m {s d : Nat} {x : Operand} {u : zab} (hx : ev x e = some u) : zk8 s d x C e H = zl6 C s d H u := by unfold zk8 zl6; rw [hx]; rfl
theorem zzcp {ty : Nat} {x : Operand} {lo hi : Option Operand} {a : zab} {l r : Option zab} (h1 : ev x e = some a) (h2 : evo lo e = some l) (h3 : evo hi e = some r) : zmo ty x lo hi C e H = zen C ty H a l r := by unfold zmo zen; rw [h1, zac, h2, zac, h3, zac]
theorem zoj {s f : Nat} {x : Operand} {u : zab} (hx : ev x e = some u) : zdk s x f C e H = zaj C s f u := by
 unfold zdk zaj zf4; rw [hx]
 cases C.tys.get s with
 | none => rfl
 | some ty =>
  simp only [zac]
  cases ty.desc.asStruct with
  | none => rfl
  | some fs =>
   simp only [zac]
   cases ze7 fs f with
   | none => rfl
   | some fd => simp only [zac]; cases hb : (!Nat.beq fd.2.2 0) <;> rfl
theorem zoh {ty : Nat} {x i : Operand} {u w : zab} (hx : ev x e = some u) (hi : ev i e = some w) : zdj ty x i C e H = zaf C ty u w := by unfold zdj zaf; rw [hx, hi]; rfl
theorem zzcr {ty : Nat} {x i : Operand} {u w : zab} (hx : ev x e = some u) (hi : ev i e = some w) : zkg ty x i C e H = zjq C ty u w := by unfold zkg zjq; rw [hx, hi]; rfl
theorem zze3 {x : Operand} {u : zab} (hx : ev x e = some u) : zzcq x C e H = zrn u := by unfold zzcq zrn; rw [hx]; rfl
theorem z3n {x : Operand} {i : Nat} {u : zab} (hx : ev x e = some u) : zff x i C e H = zas i u := by unfold zff zas; rw [hx]; rfl
theorem lBin_v {op : BinOp} {ty : Nat} {x y : Operand} {u w : zab} (hx : ev x e = some u) (hy : ev y e = some w) : zwj op ty x y C e H = (zxd op).f C ty x y u w := by unfold zwj; rw [hx, hy]; rfl
theorem z8o {x : Operand} {a : Nat} {ok : Bool} {u : zab} (hx : ev x e = some u) : zhi x a ok C e H = zx1 C a ok u := by
 unfold zhi zx1; rw [hx]; rfl
theorem z8i {ty : Nat} {x i : Operand} {ok : Bool} {m k : zab} (hx : ev x e = some m) (hi : ev i e = some k) : zhh ty x i ok C e H = zia C ty H m k ok := by unfold zhh zia; rw [hx, hi]; rfl
theorem lLen_v {c : Call} {ty : Nat} {x : Operand} {u : zab} (h1 : ze7 c.argTypes.toList 0 = some ty) (h2 : ze7 c.args.toList 0 = some x) (hx : ev x e = some u) : z1m c C e H = z4k C ty H u := by unfold z1m z4k; rw [h1, zac, h2, zac, hx]; rfl
theorem zzdj (he : zo0 e e') {op : Op} (hp : zt2 op = true \/ (∃ s d x, op = .convert s d x /\ (zlf C d = 1 \/ zlf C s = 2)) \/ (∃ c, op = .call c /\ (c.callee = .builtin .max \/ c.callee = .builtin .min))) {H' : zai} (h : (zb6 op).f C e H = some v) : (zb6 op).f C e' H' = some v := by
 rcases hp with hp | hp | hp
 ·cases op <;> simp only [zt2] at hp <;> try (cases hp; done)
  case move x => exact za3 he h
  case assign x => exact za3 he h
  case pick c a b =>
   have h : ob (ev c e) (fun c => ob c.asBool fun c => bif c then ev a e else ev b e) = some v := h
   show ob (ev c e') (fun c => ob c.asBool fun c => bif c then ev a e' else ev b e') = some v
   simp only [zad] at h ⊢
   obtain ⟨u, h1, w, h2, h3⟩ := h
   refine ⟨u, za3 he h1, w, h2, ?_⟩
   cases w with
   | true => exact za3 he h3
   | false => exact za3 he h3
  case nilCheck x =>
   have h : ob (ev x e) (fun u => zao (Nat.beq u.tag 4 || Nat.beq u.tag 9) (some u)) = some v := h
   show ob (ev x e') (fun u => zao (Nat.beq u.tag 4 || Nat.beq u.tag 9) (some u)) = some v
   rw [zad] at h ⊢
   obtain ⟨u, h1, h2⟩ := h
   exact ⟨u, za3 he h1, h2⟩
  case binOp op t x y u =>
   have h : zwj op t x y C e H = some v := h
   show zwj op t x y C e' H' = some v
   unfold zwj at h ⊢
   simp only [zad] at h ⊢
   obtain ⟨a, h1, b, h2, h3⟩ := h
   exact ⟨a, za3 he h1, b, za3 he h2, h3⟩
  case unOp op t x =>
   have h : lUn op x C e H = some v := h
   show lUn op x C e' H' = some v
   unfold lUn at h ⊢
   rw [zad] at h ⊢
   obtain ⟨a, h1, h2⟩ := h
   exact ⟨a, za3 he h1, h2⟩
  case makeInterface t x =>
   have h : zoi t x C e H = some v := h
   show zoi t x C e' H' = some v
   unfold zoi at h ⊢
   simp only [zad, zae] at h ⊢
   obtain ⟨a, h1, h2, b, h3, h4⟩ := h
   exact ⟨a, h1, h2, b, za3 he h3, h4⟩
  case makeFunc fn a b =>
   have h : (zkh fn a b).f C e H = some v := h
   show (zkh fn a b).f C e' H' = some v
   unfold zkh at h ⊢
   split at h
   ·show z8l _ a b C e' H' = some v
    unfold z8l at h ⊢
    simp only [zad] at h ⊢
    obtain ⟨x, h1, y, h2, h3⟩ := h
    exact ⟨x, zum he h1, y, zum he h2, h3⟩
   ·cases h
  case fieldAddr s x f =>
   have h : zdk s x f C e H = some v := h
   show zdk s x f C e' H' = some v
   unfold zdk at h ⊢
   simp only [zad, zae] at h ⊢
   obtain ⟨a, h1, b, h2, c, h3, h4, u, h5, h6⟩ := h
   exact ⟨a, h1, b, h2, c, h3, h4, u, za3 he h5, h6⟩
  case field t x f =>
   have h : zok t x f C e H = some v := h
   show zok t x f C e' H' = some v
   unfold zok at h ⊢
   simp only [zad] at h ⊢
   obtain ⟨a, h1, b, h2, c, h3, u, h5, h6⟩ := h
   exact ⟨a, h1, b, h2, c, h3, u, za3 he h5, h6⟩
  case indexAddr t x i =>
   have h : zdj t x i C e H = some v := h
   show zdj t x i C e' H' = some v
   unfold zdj at h ⊢
   simp only [zad] at h ⊢
   obtain ⟨a, h1, b, h2, c, h3, h4⟩ := h
   exact ⟨a, h1, b, za3 he h2, c, za3 he h3, h4⟩
  case index t x i =>
   have h : zkg t x i C e H = some v := h
   show zkg t x i C e' H' = some v
   unfold zkg at h ⊢
   simp only [zad] at h ⊢
   obtain ⟨a, h1, b, h2, c, h3, h4⟩ := h
   exact ⟨a, h1, b, za3 he h2, c, za3 he h3, h4⟩
  case extract t i =>
   have h : zff t i C e H = some v := h
   show zff t i C e' H' = some v
   unfold zff at h ⊢
   rw [zad] at h ⊢
   obtain ⟨a, h1, h2⟩ := h
   exact ⟨a, za3 he h1, h2⟩
  case build t ps =>
   have h : zlk t ps C e H = some v := h
   show zlk t ps C e' H' = some v
   unfold zlk at h ⊢
   rw [zad] at h ⊢
   obtain ⟨a, h1, h⟩ := h
   refine ⟨a, h1, ?_⟩
   rw [zad] at h ⊢
   obtain ⟨b, h2, h⟩ := h
   exact ⟨b, zun he h2, h⟩
  case typeAssert x t u ok =>
   have h : zhi x u ok C e H = some v := h
   show zhi x u ok C e' H' = some v
   unfold zhi at h ⊢
   rw [zad] at h ⊢
   obtain ⟨a, h1, h⟩ := h
   refine ⟨a, h1, ?_⟩
   rw [zae] at h ⊢
   refine ⟨h.1, ?_⟩
   have h := h.2
   rw [zad] at h ⊢
   obtain ⟨b, h2, h⟩ := h
   exact ⟨b, za3 he h2, h⟩
 ·obtain ⟨s, d, x, rfl, hp⟩ := hp
  have h : zk8 s d x C e H = some v := h
  show zk8 s d x C e' H' = some v
  unfold zk8 at h ⊢
  simp only [zad] at h ⊢
  obtain ⟨u, h1, sy, h2, dy, h3, h4⟩ := h
  refine ⟨u, za3 he h1, sy, h2, dy, h3, ?_⟩
  unfold znx at h4 ⊢
  split at h4
  ·exact h4
  ·rename_i hd
   rw [zae] at h4 ⊢
   refine ⟨h4.1, ?_⟩
   have h4 := h4.2
   rw [zar] at h4 ⊢
   split at h4
   ·rename_i e; rw [if_pos e]; exact h4
   ·rename_i e
    exfalso
    rcases hp with hp | hp
    ·unfold zlf at hp
     rw [h3] at hp; have hp : dy.desc.tag = 1 := hp
     cases hx : dy.desc <;> rw [hx] at hp hd <;> first
      | (cases hp; done)
      | (cases hd; done)
    ·unfold zlf at hp
     rw [h2] at hp; have hp : sy.desc.tag = 2 := hp
     simp only [zad] at h4; obtain ⟨el, h5, _⟩ := h4
     cases hx : sy.desc <;> rw [hx] at hp h5 <;> first
      | (cases hp; done)
      | (cases h5; done)
 ·obtain ⟨c, rfl, hc⟩ := hp
  rcases hc with hc | hc
  ·have h : (zgb c c.callee).f C e H = some v := h
   show (zgb c c.callee).f C e' H' = some v
   rw [hc] at h ⊢
   have h : z8h c C e H = some v := h
   show z8h c C e' H' = some v
   unfold z8h at h ⊢
   rw [zad] at h ⊢
   obtain ⟨p, h1, h2⟩ := h
   exact ⟨p, ztm he h1, h2⟩
  ·have h : (zgb c c.callee).f C e H = some v := h
   show (zgb c c.callee).f C e' H' = some v
   rw [hc] at h ⊢
   have h : z8f c C e H = some v := h
   show z8f c C e' H' = some v
   unfold z8f at h ⊢
   rw [zad] at h ⊢
   obtain ⟨p, h1, h2⟩ := h
   exact ⟨p, ztm he h1, h2⟩
end
end Go.Am
namespace Go.Am
open Go Go.RowKit
section
variable {base : Nat} {t : Tr zal} {X : Xt} {H HA : zai} {e e' : Env} {C : Ctx} {v : zab}
theorem Ov.newBlk (h : Ov base t X HA) (y : zal) : Ov base (t.set HA.next y) X (newBlk HA y) := by
 refine ⟨Nat.le_succ_of_le h.base, fun b hb => ?_, fun b z hb => ?_, fun b z hb => ?_⟩
 ·show (HA.t.set HA.next y).get b = _
  rw [Tr.get_set, Tr.get_set]; split
  ·rfl
  ·exact h.same b hb
 ·obtain ⟨h1, h2, h3⟩ := h.ext b z hb
  have hne : b ≠ HA.next := Nat.ne_of_lt h3
  refine ⟨?_, ?_, Nat.lt_succ_of_lt h3⟩
  ·show (HA.t.set HA.next y).get b = _
   rw [Tr.get_set, if_neg hne]; exact h1
  ·rw [Tr.get_set, if_neg hne]; exact h2
 ·rw [Tr.get_set] at hb
  show b < HA.next + 1
  split at hb
  ·rename_i e; rw [e]; exact Nat.lt_succ_self _
  ·exact Nat.lt_succ_of_lt (h.lt _ _ hb)
theorem Ov.setBlk (h : Ov base t X HA) {b : Nat} {y : zal} (hb : t.get b = some y) (z : zal) : Ov base (t.set b z) X (setBlk HA b z) := by
 refine ⟨h.base, fun c hc => ?_, fun c u hc => ?_, fun c u hc => ?_⟩
 ·show (HA.t.set b z).get c = _
  rw [Tr.get_set, Tr.get_set]; split
  ·rfl
  ·exact h.same c hc
 ·obtain ⟨h1, h2, h3⟩ := h.ext c u hc
  have hne : c ≠ b := fun e => by rw [e, hb] at h2; cases h2
  refine ⟨?_, ?_, h3⟩
  ·show (HA.t.set b z).get c = _
   rw [Tr.get_set, if_neg hne]; exact h1
  ·rw [Tr.get_set, if_neg hne]; exact h2
 ·rw [Tr.get_set] at hc
  show c < HA.next
  split at hc
  ·rename_i e; rw [e]; exact h.lt _ _ hb
  ·exact h.lt _ _ hc
theorem Ov.delBlk (h : Ov base t X HA) {b : Nat} {y : zal} (hb : t.get b = some y) : Ov base (t.del b) X ⟨HA.next, HA.t.del b⟩ := by
 refine ⟨h.base, fun c hc => ?_, fun c u hc => ?_, fun c u hc => ?_⟩
 ·show (HA.t.del b).get c = _
  rw [Tr.get_del, Tr.get_del]; split
  ·rfl
  ·exact h.same c hc
 ·obtain ⟨h1, h2, h3⟩ := h.ext c u hc
  have hne : c ≠ b := fun e => by rw [e, hb] at h2; cases h2
  refine ⟨?_, ?_, h3⟩
  ·show (HA.t.del b).get c = _
   rw [Tr.get_del, if_neg hne]; exact h1
  ·rw [Tr.get_del, if_neg hne]; exact h2
 ·rw [Tr.get_del] at hc
  show c < HA.next
  split at hc
  ·cases hc
  ·exact h.lt _ _ hc
def zzaz (base : Nat) (x : zai -> Option (zab × zai)) : Prop := ∀ t X HA v H', Ov base t X HA -> x ⟨HA.next, t⟩ = some (v, H') -> ∃ HA', x HA = some (v, HA') /\ Ov base H'.t X HA'
theorem zqg (l : List zab) (lo : Option Nat) (h : Ov base t X HA) : Ov base (za7 ⟨HA.next, t⟩ l lo).t X (za7 HA l lo) := h.newBlk _
theorem z45 {ty : Nat} : zzaz base (zl7 C ty) := by
 intro t X HA v H' ho h; unfold zl7 at h ⊢
 rw [zad] at h; obtain ⟨y, h1, h2⟩ := h
 cases h2; rw [h1]; exact ⟨_, rfl, zqg _ _ ho⟩
theorem zzf8 {u : zab} : zzaz base (z44 u) := by
 intro t X HA v H' ho h
 cases h; exact ⟨_, rfl, zqg _ _ ho⟩
theorem zrp {ty n : Nat} {ps : List (Nat × zab)} : zzaz base (za0 C ty n ps) := by
 intro t X HA v H' ho h; unfold za0 at h ⊢
 simp only [zad, zae] at h; obtain ⟨a, h1, b, h2, c, h3, h4, l, h5, h6⟩ := h
 cases h6; refine ⟨za7 HA l none, ?_, zqg _ _ ho⟩
 simp only [zad, zae]; exact ⟨a, h1, b, h2, c, h3, h4, l, h5, rfl⟩
theorem zvk (ho : Ov base t X HA) {b off : Nat} {l : List zab} {H' : zai} (h : zhx C ⟨HA.next, t⟩ b off l = some H') : ∃ HA', zhx C HA b off l = some HA' /\ Ov base H'.t X HA' := by
 unfold zhx at h ⊢
 simp only [zad, zae] at h; obtain ⟨h1, c, h2, h3, h4⟩ := h
 cases h4; have h2' := h2
 unfold za1 at h2'; rw [zad] at h2'
 obtain ⟨y, h5, _⟩ := h2'
 refine ⟨_, ?_, ho.setBlk h5 _⟩
 simp only [zad, zae]; exact ⟨h1, c, zck ho.le h2, h3, rfl⟩
theorem z41 {ty : Nat} {a u : zab} : zzaz base (zb3 C ty a u) := by
 intro t X HA v H' ho h; unfold zb3 at h ⊢
 simp only [zad, zae] at h; obtain ⟨y, h1, p, h2, h3, H1, h4, h5⟩ := h
 cases h5; obtain ⟨HA', h6, h7⟩ := zvk ho h4
 refine ⟨HA', ?_, h7⟩
 simp only [zad, zae]; exact ⟨y, h1, p, h2, h3, HA', h6, rfl⟩
theorem zx0 : zzaz base zks := by
 intro t X HA v H' ho h
 cases h; exact ⟨_, rfl, ho.newBlk _⟩
theorem zr3 {ty : Nat} {m k u : zab} : zzaz base (zj4 C ty m k u) := by
 intro t X HA v H' ho h; unfold zj4 at h ⊢
 simp only [zad, zae] at h; obtain ⟨a, h1, b, h2, c, h3, h4, d, h5, h6, l, h7, h8, l', h9, h10⟩ := h
 cases h10; have h7' := h7
 unfold zgj at h7'; rw [zad] at h7'
 obtain ⟨y, h11, _⟩ := h7'
 refine ⟨_, ?_, ho.setBlk h11 _⟩
 simp only [zad, zae]; exact ⟨a, h1, b, h2, c, h3, h4, d, h5, h6, l, zfv ho.le h7, h8, l', h9, rfl⟩
theorem ztj {ty : Nat} {l c : zab} : zzaz base (zch C ty l c) := by
 intro t X HA v H' ho h; unfold zch at h ⊢
 simp only [zad, zae] at h; obtain ⟨a, h1, b, h2, d, h3, n, h4, m, h5, h6, h7⟩ := h
 cases h7; refine ⟨za7 HA (zsj d.zero m) none, ?_, zqg _ _ ho⟩
 simp only [zad, zae]; exact ⟨a, h1, b, h2, d, h3, n, h4, m, h5, h6, rfl⟩
theorem zxy {s d : Nat} {u : zab} : zzaz base (zti C s d u) := by
 intro t X HA v H' ho h; unfold zti at h ⊢
 simp only [zad, zae] at h; obtain ⟨a, h1, b, h2, c, h3, et, h4, k, h5, h6, l, h7, h8⟩ := h
 cases h8; refine ⟨za7 HA (zfl l) (some 1), ?_, zqg _ _ ho⟩
 simp only [zad, zae]; exact ⟨a, h1, b, h2, c, h3, et, h4, k, h5, h6, l, h7, rfl⟩
theorem zzf (h : HLe H HA) {sz n : Nat} {u : zab} {l : List zab} (hx : zol H sz n u = some l) : zol HA sz n u = some l := by
 unfold zol at hx ⊢
 split at hx
 ·rw [zad] at hx ⊢
  obtain ⟨c, h1, h2⟩ := hx
  exact ⟨c, zck h h1, h2⟩
 ·exact hx
theorem z4f (ho : Ov base t X HA) {ty : ATy} {a b : zab} {H' : zai} (h : zge C ⟨HA.next, t⟩ ty a b = some (v, H')) : ∃ HA', zge C HA ty a b = some (v, HA') /\ Ov base H'.t X HA' := by
 unfold zge at h; simp only [zad] at h; obtain ⟨el, h1, et, h2, n, h3, new, h4, h5⟩ := h
 have h4' := zzf ho.le h4
 suffices hs : ∃ HA', (match a.asSlice with
  | some s => bif Nat.ble (s.2.2.1 + n) s.2.2.2 then zfz C HA et n new s else zhl C HA et n new s
  | none => zao (Nat.beq a.tag 5) (zfg HA et n new)) = some (v, HA') /\ Ov base H'.t X HA' by
  obtain ⟨HA', g1, g2⟩ := hs
  refine ⟨HA', ?_, g2⟩
  unfold zge; simp only [zad]; exact ⟨el, h1, et, h2, n, h3, new, h4', g1⟩
 cases hs : a.asSlice with
 | some s =>
  rw [hs] at h5; simp only [] at h5 ⊢
  rw [zar] at h5; split at h5
  ·rename_i hr
   simp only [hr, cond_true]; unfold zfz at h5 ⊢
   split at h5
   ·cases h5; exact ⟨HA, rfl, ho⟩
   ·rw [zad] at h5
    obtain ⟨H1, g1, g2⟩ := h5
    cases g2
    obtain ⟨HA', g3, g4⟩ := zvk ho g1
    exact ⟨HA', by simp only [g3, zac], g4⟩
  ·rename_i hr
   simp only [Bool.not_eq_true] at hr; simp only [hr, cond_false]; unfold zhl at h5 ⊢
   rw [zae] at h5; obtain ⟨g0, h5⟩ := h5
   rw [zad] at h5; obtain ⟨c, g1, h5⟩ := h5
   have g1' := zck ho.le g1
   unfold za1 at g1; rw [zad] at g1; obtain ⟨y, g2, _⟩ := g1
   split at h5
   ·rename_i hc
    unfold zhk at h5; rw [zad] at h5; obtain ⟨old, g3, g4⟩ := h5
    cases g4
    refine ⟨za7 HA (ziu old new) (some et.size), ?_, zqg _ _ ho⟩
    simp only [zae, zad]; refine ⟨g0, c, g1', ?_⟩
    rw [hc]; unfold zhk; simp only [zad]; exact ⟨old, g3, rfl⟩
   ·rename_i es hc
    unfold ziz at h5; rw [zae] at h5; obtain ⟨g3, g4⟩ := h5
    cases g4
    refine ⟨⟨HA.next + 1, (HA.t.del s.1).set HA.next (.cells (c.1.setMany new (s.2.2.1 * es)) ((s.2.2.1 + n) * es) (some es))⟩, ?_, (ho.delBlk g2).newBlk _⟩
    simp only [zae, zad]; refine ⟨g0, c, g1', ?_⟩
    rw [hc]; unfold ziz; exact zae.2 ⟨g3, rfl⟩
 | none =>
  rw [hs] at h5; simp only [] at h5 ⊢
  rw [zae] at h5; obtain ⟨g0, h5⟩ := h5
  unfold zfg at h5; rw [zar] at h5; split at h5
  ·rename_i hn
   cases h5; refine ⟨HA, ?_, ho⟩
   rw [zae]; refine ⟨g0, ?_⟩
   unfold zfg; rw [hn]; rfl
  ·rename_i hn
   rw [zae] at h5; obtain ⟨g1, h5⟩ := h5
   cases h5; refine ⟨za7 HA new (some et.size), ?_, zqg _ _ ho⟩
   rw [zae]; refine ⟨g0, ?_⟩
   unfold zfg; simp only [Bool.not_eq_true] at hn; rw [hn, cond_false, zae]; exact ⟨g1, rfl⟩
theorem z2n {ty u : Nat} {a b : zab} : zzaz base (zbn C ty u a b) := by
 intro t X HA v H' ho h; unfold zbn at h; simp only [zad, zae] at h; obtain ⟨y, h1, z, h2, h3, h4⟩ := h
 obtain ⟨HA', g1, g2⟩ := z4f ho h4
 refine ⟨HA', ?_, g2⟩
 unfold zbn; simp only [zad, zae]; exact ⟨y, h1, z, h2, h3, g1⟩
end
def zn5 (ν : Nat -> Nat) (ae : zxr) (e : Env) : Prop := ∀ i p, tAd ae i = some p -> zzaw i e = some (.ptr (ν p.1) p.2)
def zzas (base : Nat) (X0 X : Xt) (ν : Nat -> Nat) (lo : Tr (List zab)) : Prop := ∀ d l, lo.get d = some l -> X0 (ν d) = none /\ base <= ν d /\ ∃ c, X (ν d) = some (.cells c l.length none) /\ ∀ j a, l[j]? = some a -> c.get j = some a
theorem zbq {base : Nat} {W J : zhu} {α : Type} {x : Option α} {K : α -> T} {t : Tr zal} {Q : zaw} : wpT base W J (obT x K) t Q ↔ ∃ a, x = some a /\ wpT base W J (K a) t Q := by
 cases x with
 | none => exact ⟨fun h => (by cases h), fun ⟨_, h, _⟩ => (by cases h)⟩
 | some a => exact ⟨fun h => ⟨a, rfl, h⟩, fun ⟨_, h, k⟩ => (by cases h; exact k)⟩
theorem zhv {base : Nat} {W J : zhu} {b : Bool} {K : T} {t : Tr zal} {Q : zaw} : wpT base W J (gdT b K) t Q ↔ b = true /\ wpT base W J K t Q := by
 cases b with
 | false => exact ⟨fun h => (by cases h), fun ⟨h, _⟩ => (by cases h)⟩
 | true => exact ⟨fun h => ⟨rfl, h⟩, fun ⟨_, h⟩ => h⟩
theorem zlb {base : Nat} {W J : zhu} {x : Option zab} {K : zab -> T} {t : Tr zal} {Q : zaw} : wpT base W J (.opt x K) t Q ↔ ∃ a, x = some a /\ wpT base W J (K a) t Q := zgs
theorem zkq {base : Nat} {W J : zhu} {x : Tr zal -> Option zab} {K : zab -> T} {t : Tr zal} {Q : zaw} : wpT base W J (.light x K) t Q ↔ ∃ a, x t = some a /\ wpT base W J (K a) t Q := zgs
theorem zpi {ν : Nat -> Nat} {ae : zxr} {e : Env} (h : zn5 ν ae e) {x : Operand} {p : Nat × Nat} (hx : xAd ae x = some p) : ev x e = some (.ptr (ν p.1) p.2) := by
 cases x with
 | tmp i => exact h i p hx
 | const _ => cases hx
 | global _ => cases hx
 | func _ => cases hx
theorem zzg9 {c : Tr zab} {l : List zab} (h : ∀ j a, l[j]? = some a -> c.get j = some a) : ∀ (n off : Nat), off + n <= l.length -> c.many n off = some ((l.drop off).take n) := by
 intro n; induction n with
 | zero => intro off _; simp; rfl
 | succ n ih =>
  intro off ho; have hlt : off < l.length := by omega
  rw [Tr.many_succ, h off l[off] (yae hlt), zac, ih (off + 1) (by omega), zac]
  rw [yam hlt, List.take_succ_cons]
section
variable {W J : zhu} {t : Tr zal} {X X0 : Xt} {HA : zai} {e eA : Env} {C : Ctx} {ν : Nat -> Nat} {ae : zxr} {lo : Tr (List zab)} {k : KOp} {Q : zaw} {R : zab -> Prop}
theorem z1g (ho : Ov C.base t X HA) (hl : zzas C.base X0 X ν lo) {d off ty : Nat} {l : List zab} {y : ATy} {v : zab} (h1 : lo.get d = some l) (h2 : C.tys.get ty = some y) (h3 : Nat.ble (off + y.size) (zbw l) = true) (h4 : zoy C ty l off = some v) :
  zap C ty HA (.ptr (ν d) off) = some v := by
 obtain ⟨_, _, c, hc, hg⟩ := hl d l h1
 have hb := (ho.ext _ _ hc).1
 unfold zap; simp only [zab.asPtr, zac]; rw [h2, zac]; unfold za1; rw [hb, zac]; simp only [zal.asCells, zac]; unfold zoy at h4; rw [h2, zac] at h4; unfold znn; rw [zar] at h4 ⊢
 rw [zj2, zbb] at h3; split at h4
 ·rename_i ha
  rw [if_pos ha, zzg9 hg _ _ h3, zac]; rw [zjh, zfe] at h4; exact h4
 ·rename_i ha
  rw [if_neg ha]; rw [zbh] at h4; exact hg _ _ h4
theorem zfs (he : zo0 e eA) {op : Op} (hp : zt2 op = true \/ (∃ s d x, op = .convert s d x /\ (zlf C d = 1 \/ zlf C s = 2)) \/ (∃ c, op = .call c /\ (c.callee = .builtin .max \/ c.callee = .builtin .min)))
  (h : wpT C.base W J (z0k C op e k) t Q) (hKd : ∀ v, wpT C.base W J (k.Kd v) t Q -> R v) : ∃ v, (zb6 op).f C eA HA = some v /\ R v := by
 unfold z0k at h; rw [zbq] at h; obtain ⟨v, h1, h2⟩ := h
 exact ⟨v, zzdj he hp h1, hKd v h2⟩
theorem z43 {ty : Nat} {u v : zab} {H : zai} (ht : zlf C ty = 4) (h : zba u = some v) : z4k C ty H u = some v := by
 unfold zlf at ht
 cases hy : C.tys.get ty with
 | none => rw [hy] at ht; cases ht
 | some y =>
  rw [hy] at ht; have ht : y.desc.tag = 4 := ht
  unfold z4k; rw [hy, zac]; unfold zba at h; unfold z78
  cases u <;> simp only [zab.asSlice, zab.asStr, zab.asMap, zab.tag] at h ⊢ <;> (try (rw [zae] at h; exact absurd h.1 (by decide)))
  case nilslice =>
   rw [zae] at h; have hn : y.desc.asArr = none := by cases hd : y.desc <;> rw [hd] at ht <;> first | rfl | (cases ht; done)
   rw [hn, ht]; simp only [zad, zae]; exact ⟨0, ⟨rfl, rfl⟩, h.2⟩
  case slice a b n m =>
   rw [ht]
   cases h; simp only [zad, zae]; exact ⟨n, ⟨rfl, rfl⟩, rfl⟩
theorem z82 {ty : Nat} {u v : zab} {H H' : zai} (ht : zlf C ty ≠ 6) (h : z4k C ty H u = some v) : z4k C ty H' u = some v := by
 unfold z4k at h ⊢
 simp only [zad] at h ⊢
 obtain ⟨y, h1, n, h2, h3⟩ := h
 refine ⟨y, h1, n, ?_, h3⟩
 have ht : ¬ Nat.beq y.desc.tag 6 = true := by
  intro hb; apply ht; unfold zlf; rw [h1]; exact zc0.1 hb
 unfold z78 at h2 ⊢
 split at h2
 ·exact h2
 ·split at h2
  ·exact h2
  ·split at h2
   ·exact h2
   ·split at h2
    ·rw [zae] at h2; exact absurd h2.1 ht
    ·exact h2
theorem z6i {ty : Nat} {a v : zab} {l h : Option zab} {H H' : zai} (ht : zlf C ty = 2) (hx : zen C ty H a l h = some v) : zen C ty H' a l h = some v := by
 unfold zen at hx ⊢
 rw [zad] at hx ⊢
 obtain ⟨y, h1, h2⟩ := hx
 refine ⟨y, h1, ?_⟩
 unfold zlf at ht; rw [h1] at ht; have ht : y.desc.tag = 2 := ht
 unfold zhy at h2 ⊢
 have n1 : y.desc.asSlice = none := by cases hd : y.desc <;> rw [hd] at ht <;> first | rfl | (cases ht; done)
 have n2 : y.desc.asArr = none := by cases hd : y.desc <;> rw [hd] at ht <;> first | rfl | (cases ht; done)
 split at h2
 ·exact h2
 ·split at h2
  ·rw [n1] at h2; cases h2
  ·split at h2
   ·rw [n2] at h2; cases h2
   ·exact h2
theorem zqe {u : zab} (h : zab.one u = true) : u.cells = [u] := by
 cases u <;> first
  | rfl
  | (have := zdl.1 h; simp [zab.tag] at this)
theorem z30 {tyAt : Nat -> Option Nat} (place : Nat -> Option (Nat × Nat)) : ∀ (vs : List (Nat × zab)) {q : List (Nat × zab × List zab) × List zab}, z7c C tyAt vs = some q -> zeb zab.one q.2 = true -> ∀ cells l, zzdd place q.1 cells = some l -> zoz place vs cells = some l := by
 intro vs; induction vs with
 | nil => intro q h _ cells l hl; cases h; exact hl
 | cons p vs ih =>
  intro q h h1 cells l hl; have h : (ob (tyAt p.1) fun t => ob (C.tys.get t) fun ty => ob (z7c C tyAt vs) fun r => some (bif ty.desc.isAgg then ((p.1, p.2, p.2.cells) :: r.1, r.2) else ((p.1, p.2, [p.2]) :: r.1, p.2 :: r.2))) = some q := h
  simp only [zad] at h; obtain ⟨ty, _, y, _, r, h3, h4⟩ := h
  have fin : ∀ (rest : List zab), zeb zab.one r.2 = true -> (ob (place p.1) fun q => ob (zzdc cells q.1 q.2 p.2.cells) fun cells => zzdd place r.1 cells) = some l -> zoz place (p :: vs) cells = some l := by
   intro _ hr hl; show (ob (place p.1) fun q => ob (znu cells q.1 q.2 p.2) fun cells => zoz place vs cells) = some l
   simp only [zad] at hl ⊢
   obtain ⟨a, g1, b, g2, g3⟩ := hl
   exact ⟨a, g1, b, g2, ih h3 hr _ _ g3⟩
  cases hb : y.desc.isAgg with
  | true =>
   rw [hb] at h4
   cases h4; exact fin [] h1 hl
  | false =>
   rw [hb] at h4
   cases h4; rw [zcb, cond_false] at h1; simp only [ybh, yac] at h1; have hl : (ob (place p.1) fun q => ob (zzdc cells q.1 q.2 [p.2]) fun cells => zzdd place r.1 cells) = some l := hl
   rw [<- zqe h1.1] at hl; exact fin [] (by rw [zcb]; exact h1.2) hl
theorem zzgc (he : zo0 e eA) (ha : zn5 ν ae eA) (ho : Ov C.base t X HA) (hl : zzas C.base X0 X ν lo) {op : Op} (h : wpT C.base W J (tL C op e ae lo k) t Q)
  (hK : ∀ v, wpT C.base W J (k.K v) t Q -> R v) (hKd : ∀ v, wpT C.base W J (k.Kd v) t Q -> R v) (hKA : ∀ d off, wpT C.base W J (k.KA d off) t Q -> R (.ptr (ν d) off)) :
  ∃ v, (zb6 op).f C eA HA = some v /\ R v := by
 cases op <;> simp only [tL] at h <;> try (cases h; done)
 case move x =>
  unfold zzbb at h; split at h
  ·rename_i p hp
   exact ⟨_, zpi ha hp, hKA _ _ h⟩
  ·exact zfs he (.inl rfl) h hKd
 case assign x =>
  unfold zzbb at h; split at h
  ·rename_i p hp
   exact ⟨_, zpi ha hp, hKA _ _ h⟩
  ·exact zfs he (.inl rfl) h hKd
 case pick c a b => exact zfs he (.inl rfl) h hKd
 case load ty a =>
  unfold tLoad at h; split at h
  ·rename_i p hp
   simp only [zbq, zhv] at h; obtain ⟨l, h1, y, h2, h3, v, h4, h5⟩ := h
   refine ⟨v, ?_, hKd v h5⟩
   show znp ty a C eA HA = some v
   rw [z8j, zpi ha hp, zac]; exact z1g ho hl h1 h2 h3 h4
  ·rw [zbq] at h
   obtain ⟨u, h1, h2⟩ := h
   rw [zkq] at h2; obtain ⟨v, h3, h4⟩ := h2
   refine ⟨v, ?_, hK v h4⟩
   show znp ty a C eA HA = some v
   rw [z8j, za3 he h1, zac]; exact zeg ho.le h3
 case nilCheck x =>
  unfold tNil at h; split at h
  ·rename_i p hp
   refine ⟨_, ?_, hKA _ _ h⟩
   show zzcq x C eA HA = _
   rw [zze3 (zpi ha hp)]; rfl
  ·rw [zbq] at h
   obtain ⟨u, h1, h2⟩ := h
   rw [zlb] at h2; obtain ⟨v, h3, h4⟩ := h2
   refine ⟨v, ?_, hK v h4⟩
   show zzcq x C eA HA = _
   rw [zze3 (za3 he h1)]; exact h3
 case binOp op ty x y u =>
  unfold tBin at h; rw [zar] at h; split at h
  ·exact zfs he (.inl rfl) h hKd
  ·simp only [zbq, zlb] at h
   obtain ⟨a, h1, b, h2, v, h3, h4⟩ := h
   refine ⟨v, ?_, hK v h4⟩
   show zwj op ty x y C eA HA = _
   rw [lBin_v (za3 he h1) (za3 he h2)]; exact h3
 case unOp o ty x =>
  split at h
  ·simp only [zbq, zlb] at h
   obtain ⟨u, h1, v, h2, h3⟩ := h
   refine ⟨v, ?_, hK v h3⟩
   show lUn .xor x C eA HA = _
   unfold lUn; rw [za3 he h1]; exact h2
  ·exact zfs he (.inl rfl) h hKd
 case convert s d x =>
  unfold zzgd at h; rw [zar] at h; split at h
  ·rename_i hd
   rw [zar] at h; split at h
   ·rename_i hs
    exact zfs he (.inr (.inl ⟨s, d, x, rfl, .inr (zc0.1 hs)⟩)) h hKd
   ·simp only [zbq, zkq] at h
    obtain ⟨u, h1, v, h2, h3⟩ := h
    refine ⟨v, ?_, hK v h3⟩
    show zk8 s d x C eA HA = _
    rw [z8m (za3 he h1)]; exact z2m ho.le h2
  ·rw [zar] at h
   split at h
   ·rename_i hd
    exact zfs he (.inr (.inl ⟨s, d, x, rfl, .inl (zc0.1 hd)⟩)) h hKd
   ·cases h
 case makeInterface ty x => exact zfs he (.inl rfl) h hKd
 case makeFunc fn a b => exact zfs he (.inl rfl) h hKd
 case slice ty x lo' hi mx =>
  cases mx with
  | some _ => cases h
  | none =>
   simp only [zzed, zbq] at h; obtain ⟨a, h1, l, h2, r, h3, h4⟩ := h
   rw [zar] at h4; show ∃ v, zmo ty x lo' hi C eA HA = some v /\ R v
   rw [zzcp (za3 he h1) (z14 he h2) (z14 he h3)]
   split at h4
   ·rename_i ht
    rw [zlb] at h4; obtain ⟨v, h5, h6⟩ := h4
    exact ⟨v, z6i (zc0.1 ht) h5, hK v h6⟩
   ·rw [zkq] at h4
    obtain ⟨v, h5, h6⟩ := h4
    exact ⟨v, zxz ho.le h5, hK v h6⟩
 case fieldAddr s x f =>
  unfold zr8 at h; show ∃ v, zdk s x f C eA HA = some v /\ R v
  split at h
  ·rename_i p hp
   rw [zbq] at h; obtain ⟨o, h1, h2⟩ := h
   refine ⟨_, ?_, hKA _ _ h2⟩
   rw [zoj (zpi ha hp)]
   unfold zaj; rw [h1]; rfl
  ·simp only [zbq, zlb] at h
   obtain ⟨u, h1, v, h2, h3⟩ := h
   refine ⟨v, ?_, hK v h3⟩
   rw [zoj (za3 he h1)]; exact h2
 case field ty x f => exact zfs he (.inl rfl) h hKd
 case indexAddr ty x i =>
  unfold zr7 at h; show ∃ v, zdj ty x i C eA HA = some v /\ R v
  split at h
  ·rename_i p hp
   simp only [zbq] at h; obtain ⟨iv, h1, n, h2, o, h3, h4⟩ := h
   refine ⟨_, ?_, hKA _ _ h4⟩
   rw [zoh (zpi ha hp) (za3 he h1)]
   unfold z0a at h3; simp only [zad, zae] at h3; obtain ⟨y, g1, a, g2, et, g3, g4, g5⟩ := h3
   cases g5
   unfold zaf; rw [g1, zac, h2, zac]; simp only [zab.asSlice, zab.asPtr, zac]; rw [g2, zac, g3, zac, g4]; rfl
  ·simp only [zbq, zlb] at h
   obtain ⟨u, h1, w, h2, v, h3, h4⟩ := h
   refine ⟨v, ?_, hK v h4⟩
   rw [zoh (za3 he h1) (za3 he h2)]; exact h3
 case index ty x i =>
  rw [zar] at h; split at h
  ·exact zfs he (.inl rfl) h hKd
  ·simp only [zbq, zlb] at h
   obtain ⟨u, h1, w, h2, v, h3, h4⟩ := h
   refine ⟨v, ?_, hK v h4⟩
   show zkg ty x i C eA HA = _
   rw [zzcr (za3 he h1) (za3 he h2)]; exact h3
 case lookup ty x i ok =>
  simp only [zbq, zkq] at h; obtain ⟨m, h1, key, h2, v, h3, h4⟩ := h
  refine ⟨v, ?_, hK v h4⟩
  show zhh ty x i ok C eA HA = _
  rw [z8i (za3 he h1) (za3 he h2)]; exact zu9 ho.le h3
 case extract x i =>
  simp only [zbq, zlb] at h; obtain ⟨u, h1, v, h2, h3⟩ := h
  refine ⟨v, ?_, hK v h3⟩
  show zff x i C eA HA = _
  rw [z3n (za3 he h1)]; exact h2
 case typeAssert x a u ok =>
  simp only [zbq, zlb] at h; obtain ⟨w, h1, v, h2, h3⟩ := h
  refine ⟨v, ?_, hK v h3⟩
  show zhi x u ok C eA HA = _
  rw [z8o (za3 he h1)]; exact h2
 case build ty ps =>
  unfold zzef at h; simp only [zbq, zhv] at h; obtain ⟨y, h1, hbd, vs, h2, q, h3, l, h4, h5⟩ := h
  have h5 : if zeb zab.one q.2 = true then wpT C.base W J (k.Kd (.agg l)) t Q else False := h5
  split at h5
  ·rename_i hone
   refine ⟨_, ?_, hKd _ h5⟩
   show zlk ty ps C eA HA = _
   have hf := z30 (zsm C y) vs h3 hone y.zero l h4
   unfold zlk; rw [h1, zac, zun he h2, zac]
   cases hs : y.desc.asStruct with
   | some fs =>
    simp only []; have : (fun i => ob (ze7 fs i) fun x => some (x.1, x.2.2)) = zsm C y := by funext i; unfold zsm; rw [hs]
    rw [this, hf]; rfl
   | none =>
    simp only []; unfold zxb at hbd; rw [hs] at hbd; simp only [] at hbd
    cases ha : y.desc.asArr with
    | none => rw [ha] at hbd; cases hbd
    | some a =>
     rw [ha] at hbd; simp only [] at hbd
     cases hy : C.tys.get a.2 with
     | none => rw [hy] at hbd; cases hbd
     | some et =>
      simp only [zac]; have : (fun i => some (i * et.size, et.size)) = zsm C y := by funext i; unfold zsm; rw [hs]; simp only []; rw [ha, zac, hy, zac]
      rw [hy, zac, this, hf]; rfl
  ·exact h5.elim
 case call c =>
  split at h
  ·rename_i b hb
   cases b <;> simp only [zmc] at h <;> try (cases h; done)
   case len =>
    unfold tLen at h; simp only [zbq] at h; obtain ⟨ty, h1, x, h2, u, h3, h4⟩ := h
    show ∃ v, (zgb c c.callee).f C eA HA = some v /\ R v
    rw [hb]; show ∃ v, z1m c C eA HA = some v /\ R v
    rw [lLen_v h1 h2 (za3 he h3)]
    rw [zar] at h4; split at h4
    ·rename_i ht
     rw [zlb] at h4; obtain ⟨v, h5, h6⟩ := h4
     exact ⟨v, z43 (zc0.1 ht) h5, hK v h6⟩
    ·rw [zar] at h4
     split at h4
     ·rw [zkq] at h4
      obtain ⟨v, h5, h6⟩ := h4
      exact ⟨v, z42 ho.le h5, hK v h6⟩
     ·rename_i ht
      rw [zbq] at h4; obtain ⟨v, h5, h6⟩ := h4
      exact ⟨v, z82 (fun e => ht (zc0.2 e)) h5, hKd v h6⟩
   case max => exact zfs he (.inr (.inr ⟨c, rfl, .inl hb⟩)) h hKd
   case min => exact zfs he (.inr (.inr ⟨c, rfl, .inr hb⟩)) h hKd
  ·cases h
end
end Go.Am
