/- Code as a function: limits. -/
import Derived.Test.YthmbkdkibhffbaaGreatDoorB04
set_option linter.all false
noncomputable section
namespace Go.Am
open Go Go.RowKit
theorem z7s {α : Type} {f : Nat -> Option α} {r : α} (h : lim f = some r) : ∃ n, f n = some r := by
 unfold lim at h; by_cases hx : ∃ n r, f n = some r
 ·rw [dif_pos hx] at h; exact ⟨_, h⟩
 ·rw [dif_neg hx] at h; cases h
structure zz1 {α β γ : Type} (ks : Nat -> α -> β -> Option γ) (k : α -> β -> Option γ) : Prop where
 up : ∀ n, Le2 (ks n) (ks (n + 1))
 ex : ∀ a b x, k a b = some x -> ∃ n, ks n a b = some x
theorem up_le {α β γ : Type} {ks : Nat -> α -> β -> Option γ} (h : ∀ n, Le2 (ks n) (ks (n + 1))) {n m : Nat} (hnm : n <= m) : Le2 (ks n) (ks m) := by
 induction hnm with
 | refl => exact fun _ _ _ h => h
 | step _ ih => exact fun a b x hx => h _ _ _ _ (ih a b x hx)
structure zzff (φs : Nat -> Ora) (φ : Ora) : Prop where
 up : ∀ n, OLe (φs n) (φs (n + 1))
 ex : ∀ f a H x, φ f a H = some x -> ∃ n, φs n f a H = some x
theorem zzff.le {φs : Nat -> Ora} {φ : Ora} (h : zzff φs φ) {n m : Nat} (hnm : n <= m) : OLe (φs n) (φs m) := by
 induction hnm with
 | refl => exact fun _ _ _ _ h => h
 | step _ ih => exact fun f a H x hx => h.up _ _ _ _ _ (ih f a H x hx)
structure SupK (κs : Nat -> Kt) (κ : Kt) : Prop where
 norm : zz1 (fun n => (κs n).norm) κ.norm
 exit : ∀ i, zz1 (fun n => (κs n).exit i) (κ.exit i)
 ret : zz1 (fun n => (κs n).ret) κ.ret
section
variable {C : Ctx} {φ φ' : Ora} {φs : Nat -> Ora} {all : Array Oper} {N fn : Nat}
theorem z8k {g g' : Kt -> Tm -> zai -> zb7} {κ κ' : Kt} (hκ : KLe κ κ') (hg : ∀ κ κ', KLe κ κ' -> Le2 (g κ) (g' κ')) (live : List Nat) : ∀ m, Le2 (Nat.rec (motive := fun _ => Tm -> zai -> zb7) (fun _ _ => none) (fun _ r tm H => g ⟨r, κ.exit, κ.ret⟩ (keep live tm) H) m)
  (Nat.rec (motive := fun _ => Tm -> zai -> zb7) (fun _ _ => none) (fun _ r tm H => g' ⟨r, κ'.exit, κ'.ret⟩ (keep live tm) H) m) := by
 intro m; induction m with
 | zero => intro a b x h; cases h
 | succ m ih => exact fun a b x h => hg ⟨_, _, _⟩ ⟨_, _, _⟩ ⟨ih, hκ.exit, hκ.ret⟩ _ _ _ h
theorem KLe.refl (κ : Kt) : KLe κ κ := ⟨fun _ _ _ h => h, fun _ _ _ _ h => h, fun _ _ _ h => h⟩
theorem zy6 {g : Kt -> Tm -> zai -> zb7} {κ : Kt} (hg : ∀ κ κ', KLe κ κ' -> Le2 (g κ) (g κ')) (live : List Nat) : ∀ m, Le2 (Nat.rec (motive := fun _ => Tm -> zai -> zb7) (fun _ _ => none) (fun _ r tm H => g ⟨r, κ.exit, κ.ret⟩ (keep live tm) H) m)
  (Nat.rec (motive := fun _ => Tm -> zai -> zb7) (fun _ _ => none) (fun _ r tm H => g ⟨r, κ.exit, κ.ret⟩ (keep live tm) H) (m + 1)) := by
 intro m; induction m with
 | zero => intro a b x h; cases h
 | succ m ih => exact fun a b x h => hg ⟨_, _, _⟩ ⟨_, _, _⟩ ⟨ih, (KLe.refl κ).exit, (KLe.refl κ).ret⟩ _ _ _ h
theorem zk4 (hφ : OLe φ φ') : ∀ (c : zdd) (κ κ' : Kt), KLe κ κ' -> Le2 (den C φ fn N c κ) (den C φ' fn N c κ') := by
 have self : ∀ (ψ : Ora), OLe ψ ψ := fun _ _ _ _ _ h => h
 intro c; suffices h : ∀ φ φ', OLe φ φ' -> ∀ (κ κ' : Kt), KLe κ κ' -> Le2 (den C φ fn N c κ) (den C φ' fn N c κ') from h φ φ' hφ
 induction c with
 | skip => exact fun _ _ _ κ κ' hκ => hκ.norm
 | region id ops d => exact fun _ _ hφ κ κ' hκ => zoe hφ hκ.norm
 | seq a b iha ihb => exact fun _ _ hφ κ κ' hκ => iha _ _ hφ _ _ ⟨ihb _ _ hφ _ _ hκ, hκ.exit, hκ.ret⟩
 | cond c a b iha ihb =>
  intro φ φ' hφ κ κ' hκ tm H x h; have h : (ob (ob (ev c (.now tm)) zab.asBool) fun t => Bool.rec (motive := fun _ => zb7) (den C φ fn N b κ tm H) (den C φ fn N a κ tm H) t) = some x := h
  show (ob (ob (ev c (.now tm)) zab.asBool) fun t => Bool.rec (motive := fun _ => zb7) (den C φ' fn N b κ' tm H) (den C φ' fn N a κ' tm H) t) = some x
  rw [zad] at h ⊢
  obtain ⟨t, h1, h2⟩ := h
  refine ⟨t, h1, ?_⟩
  cases t with
  | true => exact iha _ _ hφ _ _ hκ _ _ _ h2
  | false => exact ihb _ _ hφ _ _ hκ _ _ _ h2
 | block id c ih =>
  intro φ φ' hφ κ κ' hκ; refine ih _ _ hφ _ _ ⟨hκ.norm, fun i tm H x h => ?_, hκ.ret⟩
  simp only [zm2] at h ⊢
  split at h
  ·rename_i e; rw [if_pos e]; exact hκ.norm _ _ _ h
  ·rename_i e; rw [if_neg e]; exact hκ.exit _ _ _ _ h
 | loop live c ih =>
  intro φ φ' hφ κ κ' hκ tm H x h; obtain ⟨m, hm⟩ := z7s h
  refine (zo8 fun m y hy => zy6 (ih _ _ (self φ')) live.kept m _ _ _ hy).2 ⟨m, ?_⟩
  exact z8k hκ (ih _ _ hφ) live.kept m _ _ _ hm
 | exit id => exact fun _ _ _ κ κ' hκ => hκ.exit id
 | ret => exact fun _ _ _ κ κ' hκ => hκ.ret
 | cut live c ih => exact fun _ _ hφ κ κ' hκ tm H x h => ih _ _ hφ _ _ hκ _ _ _ h
theorem z0v (hφ : zzff φs φ) {r : ztd} {H : zai} {ks : Nat -> zab -> zai -> zb7} {k : zab -> zai -> zb7} (hk : zz1 ks k) {x : zab × zai} (h : zjz φ r H k = some x) : ∃ n, zjz (φs n) r H (ks n) = some x := by
 cases r <;> simp only [zjz] at h ⊢ <;> try (cases h; done)
 case val v H' => exact hk.ex _ _ _ h
 case enter f args =>
  rw [zad] at h; obtain ⟨p, h1, h2⟩ := h
  obtain ⟨n, hn⟩ := hφ.ex _ _ _ _ h1
  obtain ⟨m, hm⟩ := hk.ex _ _ _ h2
  exact ⟨max n m, by rw [zad]; exact ⟨p, hφ.le (Nat.le_max_left n m) _ _ _ _ hn, up_le hk.up (Nat.le_max_right n m) _ _ _ hm⟩⟩
theorem zv6 {t : Nat} {ks : Nat -> zab -> zai -> zb7} {k : zab -> zai -> zb7} (hk : zz1 ks k) : zz1 (fun n v H => zit C t v fun v => ks n v H) (fun v H => zit C t v fun v => k v H) := by
 refine ⟨fun n => znk (hk.up n), fun v H x h => ?_⟩
 rw [zcl] at h; obtain ⟨n, hn⟩ := hk.ex _ _ _ h.2
 exact ⟨n, by rw [zcl]; exact ⟨h.1, hn⟩⟩
theorem zzbr (hφ : zzff φs φ) {κs : Nat -> Tm -> zai -> zb7} {κ : Tm -> zai -> zb7} (hκ : zz1 κs κ) : ∀ (l : List Oper), zz1 (fun n => zxq C (φs n) all N (κs n) l) (zxq C φ all N κ l) := by
 intro l; refine ⟨fun n => zqd (hφ.up n) (hκ.up n) l, ?_⟩
 induction l with
 | nil => exact hκ.ex
 | cons o l ih =>
  intro tm H x h; rw [zir, zad] at h; obtain ⟨w, h1, h2⟩ := h
  split at h2
  ·rename_i e
   obtain ⟨n, hn⟩ := z0v hφ (zv6 (ks := fun n v H' => zxq C (φs n) all N (κs n) l (putA N tm o.dst v) H') (k := fun v H' => zxq C φ all N κ l (putA N tm o.dst v) H') ⟨fun n v H' y hy => zqd (hφ.up n) (hκ.up n) l _ _ _ hy, fun v H' y hy => ih _ _ _ hy⟩) h2
   exact ⟨n, by show zxq C (φs n) all N (κs n) (o :: l) tm H = some x; rw [zir, zad]; exact ⟨w, h1, by rw [if_pos e]; exact hn⟩⟩
  ·rename_i e
   obtain ⟨n, hn⟩ := ih _ _ _ h2
   exact ⟨n, by show zxq C (φs n) all N (κs n) (o :: l) tm H = some x; rw [zir, zad]; exact ⟨w, h1, by rw [if_neg e]; exact hn⟩⟩
variable {old : Tm} {olds : List (Nat × List Nat)}
theorem zqn {H : zai} {ks : Nat -> Tm -> zb7} {k : Tm -> zb7} (hk : ∀ tm x, k tm = some x -> ∃ n, ks n tm = some x) : ∀ (l : List Nat) tm x, zcf C H all N old olds k l tm = some x -> ∃ n, zcf C H all N old olds (ks n) l tm = some x := by
 intro l; induction l with
 | nil => exact hk
 | cons i l ih =>
  intro tm x h; simp only [zh8] at h ⊢
  rw [zad] at h; obtain ⟨o, h1, h⟩ := h
  rw [zad] at h; obtain ⟨w, h3, h4⟩ := h
  split at h4
  ·rename_i e
   rw [zad] at h4; obtain ⟨v, h5, h6⟩ := h4
   rw [zcl] at h6; obtain ⟨n, hn⟩ := ih _ _ h6.2
   exact ⟨n, by rw [h1, zac, h3, zac, if_pos e, h5, zac, zcl]; exact ⟨h6.1, hn⟩⟩
  ·rename_i e
   obtain ⟨n, hn⟩ := ih _ _ h4
   exact ⟨n, by rw [h1, zac, h3, zac, if_neg e]; exact hn⟩
theorem zyf (hφ : zzff φs φ) {κs : Nat -> Tm -> zai -> zb7} {κ : Tm -> zai -> zb7} (hκ : zz1 κs κ) : ∀ (l : List zd3), zz1 (fun n => zco C (φs n) all N old olds (κs n) l) (zco C φ all N old olds κ l) := by
 intro l; refine ⟨fun n => zj7 (hφ.up n) (hκ.up n) l, ?_⟩
 induction l with
 | nil => exact hκ.ex
 | cons st l ih =>
  intro tm H x h; rw [ze1, zad] at h; obtain ⟨o, h1, h⟩ := h
  rw [zad] at h; obtain ⟨w, h2, h⟩ := h
  have cont : zz1 (fun n v H' => zfl C H' all old olds (putA N tm o.dst v) (zcf C H' all N old olds (fun tm => zco C (φs n) all N old olds (κs n) l tm H') st.lights (putA N tm o.dst v)) st.again)
    (fun v H' => zfl C H' all old olds (putA N tm o.dst v) (zcf C H' all N old olds (fun tm => zco C φ all N old olds κ l tm H') st.lights (putA N tm o.dst v)) st.again) := by
   refine ⟨fun n v H' y hy => zre (zkf (fun tm x hx => zj7 (hφ.up n) (hκ.up n) l _ _ _ hx) _ _ _ (zjo _ hy).2) _ hy, fun v H' y hy => ?_⟩
   obtain ⟨n, hn⟩ := zqn (fun tm x hx => ih tm H' x hx) _ _ _ (zjo _ hy).2
   exact ⟨n, zre hn _ hy⟩
  simp only [] at h; split at h
  ·rename_i e
   obtain ⟨n, hn⟩ := z0v hφ (zv6 cont) h
   exact ⟨n, by show zco C (φs n) all N old olds (κs n) (st :: l) tm H = some x; rw [ze1, h1, zac, h2, zac]; simp only []; rw [if_pos e]; exact hn⟩
  ·rename_i e
   obtain ⟨n, hn⟩ := cont.ex _ _ _ h
   exact ⟨n, by show zco C (φs n) all N old olds (κs n) (st :: l) tm H = some x; rw [ze1, h1, zac, h2, zac]; simp only []; rw [if_neg e]; exact hn⟩
theorem zyn (hφ : zzff φs φ) {κs : Nat -> Tm -> zai -> zb7} {κ : Tm -> zai -> zb7} (hκ : zz1 κs κ) {id : Nat} {draw : Bool} : zz1 (fun n => zng C (φs n) fn N (κs n) id all draw) (zng C φ fn N κ id all draw) := by
 refine ⟨fun n => zoe (hφ.up n) (hκ.up n), fun tm H x h => ?_⟩
 cases draw with
 | false => exact (zzbr hφ hκ _).ex _ _ _ h
 | true =>
  have h : (ob (ob (C.plans.get fn) fun t => t.get id) fun p => zan (zjt all p) (zcf C H all N tm.cut p.olds (fun tm' => zco C φ all N tm.cut p.olds κ p.stages tm' H) p.first tm.cut)) = some x := h
  rw [zad] at h; obtain ⟨p, h1, h⟩ := h
  rw [zae] at h; obtain ⟨n, hn⟩ := zqn (fun tm' x hx => (zyf hφ hκ p.stages).ex tm' H x hx) _ _ _ h.2
  refine ⟨n, ?_⟩
  show (ob (ob (C.plans.get fn) fun t => t.get id) fun p => zan (zjt all p) (zcf C H all N tm.cut p.olds (fun tm' => zco C (φs n) all N tm.cut p.olds (κs n) p.stages tm' H) p.first tm.cut)) = some x
  rw [h1, zac, zae]; exact ⟨h.1, hn⟩
theorem z9g (hφ : zzff φs φ) : ∀ (c : zdd) (κs : Nat -> Kt) (κ : Kt), SupK κs κ -> zz1 (fun n => den C (φs n) fn N c (κs n)) (den C φ fn N c κ) := by
 have kle : ∀ {κs : Nat -> Kt} {κ : Kt}, SupK κs κ -> ∀ n, KLe (κs n) (κs (n + 1)) := fun h n => ⟨h.norm.up n, fun i => (h.exit i).up n, h.ret.up n⟩
 intro c; induction c with
 | skip => exact fun κs κ hκ => hκ.norm
 | region id ops d => exact fun κs κ hκ => zyn hφ hκ.norm
 | seq a b iha ihb => exact fun κs κ hκ => iha (fun n => ⟨den C (φs n) fn N b (κs n), (κs n).exit, (κs n).ret⟩) _ ⟨ihb _ _ hκ, hκ.exit, hκ.ret⟩
 | cond c a b iha ihb =>
  intro κs κ hκ; refine ⟨fun n => zk4 (hφ.up n) (.cond c a b) _ _ (kle hκ n), fun tm H x h => ?_⟩
  have h : (ob (ob (ev c (.now tm)) zab.asBool) fun t => Bool.rec (motive := fun _ => zb7) (den C φ fn N b κ tm H) (den C φ fn N a κ tm H) t) = some x := h
  rw [zad] at h; obtain ⟨t, h1, h2⟩ := h
  have key : ∀ n, (Bool.rec (motive := fun _ => zb7) (den C (φs n) fn N b (κs n) tm H) (den C (φs n) fn N a (κs n) tm H) t : zb7) = some x -> den C (φs n) fn N (.cond c a b) (κs n) tm H = some x := by
   intro n hn; show (ob (ob (ev c (.now tm)) zab.asBool) fun t => Bool.rec (motive := fun _ => zb7) (den C (φs n) fn N b (κs n) tm H) (den C (φs n) fn N a (κs n) tm H) t) = some x
   rw [h1, zac]; exact hn
  cases t with
  | true => obtain ⟨n, hn⟩ := (iha _ _ hκ).ex _ _ _ h2; exact ⟨n, key n hn⟩
  | false => obtain ⟨n, hn⟩ := (ihb _ _ hκ).ex _ _ _ h2; exact ⟨n, key n hn⟩
 | block id c ih =>
  intro κs κ hκ; refine ih (fun n => ⟨(κs n).norm, fun i tm H => Bool.rec (motive := fun _ => zb7) ((κs n).exit i tm H) ((κs n).norm tm H) (Nat.beq id i), (κs n).ret⟩) _ ⟨hκ.norm, fun i => ⟨fun n tm H x h => ?_, fun tm H x h => ?_⟩, hκ.ret⟩
  ·simp only [zm2] at h ⊢
   split at h
   ·rename_i e; rw [if_pos e]; exact hκ.norm.up n _ _ _ h
   ·rename_i e; rw [if_neg e]; exact (hκ.exit i).up n _ _ _ h
  ·simp only [zm2] at h ⊢
   split at h
   ·rename_i e; obtain ⟨n, hn⟩ := hκ.norm.ex _ _ _ h; exact ⟨n, by rw [if_pos e]; exact hn⟩
   ·rename_i e; obtain ⟨n, hn⟩ := (hκ.exit i).ex _ _ _ h; exact ⟨n, by rw [if_neg e]; exact hn⟩
 | loop live c ih =>
  intro κs κ hκ; refine ⟨fun n => zk4 (hφ.up n) (.loop live c) _ _ (kle hκ n), fun tm H x h => ?_⟩
  obtain ⟨m, hm⟩ := z7s h
  have it : ∀ m, zz1 (fun n => (Nat.rec (motive := fun _ => Tm -> zai -> zb7) (fun _ _ => none) (fun _ r tm H => den C (φs n) fn N c ⟨r, (κs n).exit, (κs n).ret⟩ (keep live.kept tm) H) m : Tm -> zai -> zb7))
    (Nat.rec (motive := fun _ => Tm -> zai -> zb7) (fun _ _ => none) (fun _ r tm H => den C φ fn N c ⟨r, κ.exit, κ.ret⟩ (keep live.kept tm) H) m) := by
   intro m; induction m with
   | zero => exact ⟨fun _ _ _ _ h => h, fun _ _ _ h => by cases h⟩
   | succ m ihm =>
    have := ih _ _ (⟨ihm, hκ.exit, hκ.ret⟩ : SupK (fun n => ⟨(Nat.rec (motive := fun _ => Tm -> zai -> zb7) (fun _ _ => none) (fun _ r tm H => den C (φs n) fn N c ⟨r, (κs n).exit, (κs n).ret⟩ (keep live.kept tm) H) m : Tm -> zai -> zb7), (κs n).exit, (κs n).ret⟩) ⟨(Nat.rec (motive := fun _ => Tm -> zai -> zb7) (fun _ _ => none) (fun _ r tm H => den C φ fn N c ⟨r, κ.exit, κ.ret⟩ (keep live.kept tm) H) m : Tm -> zai -> zb7), κ.exit, κ.ret⟩)
    exact ⟨fun n tm H x h => this.up n _ _ _ h, fun tm H x h => this.ex _ _ _ h⟩
  obtain ⟨n, hn⟩ := (it m).ex _ _ _ hm
  exact ⟨n, (zo8 fun m y hy => zy6 (fun κ κ' h => zk4 (fun _ _ _ _ h => h) c κ κ' h) live.kept m _ _ _ hy).2 ⟨m, hn⟩⟩
 | exit id => exact fun κs κ hκ => hκ.exit id
 | ret => exact fun κs κ hκ => hκ.ret
 | cut live c ih => exact fun κs κ hκ => ⟨fun n tm H x h => (ih _ _ hκ).up n _ _ _ h, fun tm H x h => (ih _ _ hκ).ex _ _ _ h⟩
theorem zzc5 {live : PI} {c : zdd} {κ : Kt} {tm : Tm} {H : zai} : den C φ fn N (.loop live c) κ tm H = den C φ fn N c ⟨den C φ fn N (.loop live c) κ, κ.exit, κ.ret⟩ (keep live.kept tm) H := by
 have self : OLe φ φ := fun _ _ _ _ h => h
 have up : ∀ m, Le2 (Nat.rec (motive := fun _ => Tm -> zai -> zb7) (fun _ _ => none) (fun _ r tm H => den C φ fn N c ⟨r, κ.exit, κ.ret⟩ (keep live.kept tm) H) m)
   (Nat.rec (motive := fun _ => Tm -> zai -> zb7) (fun _ _ => none) (fun _ r tm H => den C φ fn N c ⟨r, κ.exit, κ.ret⟩ (keep live.kept tm) H) (m + 1)) := zy6 (zk4 self c) live.kept
 have some_iff : ∀ tm H x, den C φ fn N (.loop live c) κ tm H = some x ↔ ∃ m, (Nat.rec (motive := fun _ => Tm -> zai -> zb7) (fun _ _ => none) (fun _ r tm H => den C φ fn N c ⟨r, κ.exit, κ.ret⟩ (keep live.kept tm) H) m : Tm -> zai -> zb7) tm H = some x :=
  fun tm H x => zo8 fun m y hy => up m _ _ _ hy
 have sup : SupK (fun m => ⟨(Nat.rec (motive := fun _ => Tm -> zai -> zb7) (fun _ _ => none) (fun _ r tm H => den C φ fn N c ⟨r, κ.exit, κ.ret⟩ (keep live.kept tm) H) m : Tm -> zai -> zb7), κ.exit, κ.ret⟩) ⟨den C φ fn N (.loop live c) κ, κ.exit, κ.ret⟩ :=
  ⟨⟨up, fun tm H x h => (some_iff tm H x).1 h⟩, fun i => ⟨fun _ _ _ _ h => h, fun _ _ _ h => ⟨0, h⟩⟩, ⟨fun _ _ _ _ h => h, fun _ _ _ h => ⟨0, h⟩⟩⟩
 have key : ∀ x, den C φ fn N (.loop live c) κ tm H = some x ↔ den C φ fn N c ⟨den C φ fn N (.loop live c) κ, κ.exit, κ.ret⟩ (keep live.kept tm) H = some x := by
  intro x; rw [some_iff]; constructor
  ·rintro ⟨m, hm⟩
   cases m with
   | zero => cases hm
   | succ m => exact zk4 self c ⟨(Nat.rec (motive := fun _ => Tm -> zai -> zb7) (fun _ _ => none) (fun _ r tm H => den C φ fn N c ⟨r, κ.exit, κ.ret⟩ (keep live.kept tm) H) m : Tm -> zai -> zb7), κ.exit, κ.ret⟩ ⟨den C φ fn N (.loop live c) κ, κ.exit, κ.ret⟩ ⟨fun tm H y hy => (some_iff tm H y).2 ⟨m, hy⟩, fun _ _ _ _ h => h, fun _ _ _ h => h⟩ _ _ _ hm
  ·intro h
   obtain ⟨m, hm⟩ := (z9g (φs := fun _ => φ) ⟨fun _ => self, fun _ _ _ _ h => ⟨0, h⟩⟩ c _ _ sup).ex _ _ _ h
   exact ⟨m + 1, hm⟩
 cases h : den C φ fn N (.loop live c) κ tm H with
 | some x => exact ((key x).1 h).symm
 | none =>
  cases h2 : den C φ fn N c ⟨den C φ fn N (.loop live c) κ, κ.exit, κ.ret⟩ (keep live.kept tm) H with
  | none => rfl
  | some x => rw [(key x).2 h2] at h; cases h
end
end Go.Am
namespace Go.Am
open Go Go.RowKit
def zzch : List zcd -> Bool
 | .reg .. :: _ => true
 | _ => false
section
variable {P : Program} {C : Ctx} {B N : Nat} {I : World -> Prop} {μ : Mu} {w : World} {base : List Frame} {m : Machine}
theorem zza3 (hF : zu1 P C) {f : Nat} {args : List zab} {args' : Array Value} {H : zai} (hH : zb1 B N μ H w) (hl : zby μ args args'.toList) {g : zau} (he : zeo C f args false = some g) :
  zb3 P C B N μ base (lone (Frame.enter P f args' .normal) base w) w (.next ⟨g, [], H⟩) :=
 ⟨μ, _, [], w, .refl _ _, fun _ _ h => h, Below.refl N w, hH, (zk3 (cur := some H) hF he hl).1, .nil⟩
end
end Go.Am
namespace Go.Am
open Go Go.RowKit
inductive zn5 (C : Ctx) : zdo -> zdo -> Prop
 | refl (o : zdo) : zn5 C o o
 | step {o o' : zdo} : zn5 C (zjb C o) o' -> zn5 C o o'
 | forget {todo : List zcd} {tm tm' : Tm} {R : zgi} {cs : List zau} {H : zai} {o' : zdo} : zzch todo = false -> (∀ i v, tm'.get i = some v -> tm.get i = some v) -> zn5 C (.next ⟨⟨todo, tm', R⟩, cs, H⟩) o' -> zn5 C (.next ⟨⟨todo, tm, R⟩, cs, H⟩) o'
theorem zn5.trans {C : Ctx} {a b c : zdo} (h : zn5 C a b) (k : zn5 C b c) : zn5 C a c := by
 induction h with
 | refl => exact k
 | step _ ih => exact .step (ih k)
 | forget h1 h2 _ ih => exact .forget h1 h2 (ih k)
section
variable {P : Program} {C : Ctx} {B N : Nat} {I : World -> Prop} {μ : Mu} {w : World} {base : List Frame} {m : Machine}
theorem zck.forget {n : Nat} {tm tm' : Tm} {tmps : Array Value} (h : zck μ n tm tmps) (hs : ∀ i v, tm'.get i = some v -> tm.get i = some v) : zck μ n tm' tmps := ⟨h.1, fun i v hv => h.2 i v (hs i v hv)⟩
theorem z80 {todo : List zcd} {tm tm' : Tm} {R : zgi} {acs : List zau} {H : zai} (hr : zzch todo = false) (hs : ∀ i v, tm'.get i = some v -> tm.get i = some v) (h : zb3 P C B N μ base m w (.next ⟨⟨todo, tm, R⟩, acs, H⟩)) :
  zb3 P C B N μ base m w (.next ⟨⟨todo, tm', R⟩, acs, H⟩) := by
 obtain ⟨μ', b, cs, w', h1, h2, h3, h4, h5, h6⟩ := h
 obtain ⟨bfn, btmps, btodo, bdefers, bmode, bkind, bround⟩ := b
 refine ⟨μ', _, cs, w', h1, h2, h3, h4, ⟨h5.rest, ?_⟩, h6⟩
 have hb := h5.body
 simp only at hb ⊢
 split at hb
 ·rename_i hm
  rw [if_pos hm]
  cases hb with
  | plain a t => exact .plain a (t.forget hs)
  | reg _ _ _ _ => cases hr
  | mid _ _ _ _ _ => cases hr
 ·rename_i hm
  rw [if_neg hm]; exact hb.forget hs
theorem zb3.reach (hS : Sim P C B N I) (hI : I w) {o o' : zdo} (h : zn5 C o o') : zb3 P C B N μ base m w o -> zb3 P C B N μ base m w o' := by
 induction h with
 | refl => exact id
 | step _ ih => exact fun h => ih (zgp hS hI h)
 | forget hr hs _ ih => exact fun h => ih (z80 hr hs h)
end
def zuy (C : Ctx) (f : Nat) (fr : zau) (H : zai) (v : zab) : Prop :=
 fr.R.mode = .returning /\ fr.R.defers = [] /\ fr.R.deferred = false /\ fr.R.fn = f /\ ∃ fn l, C.fns.get f = some fn /\ zjf C H fr.tm fn.results.toList = some l /\ v = zls l
def zov (C : Ctx) (φ : Ora) : Prop := ∀ f args H x, φ f args H = some x -> ∃ g, zeo C f args false = some g /\ ∀ acs, ∃ fr', zn5 C (.next ⟨g, acs, H⟩) (.next ⟨fr', acs, x.2⟩) /\ zuy C f fr' x.2 x.1
def Fin (C : Ctx) (f : Nat) (acs : List zau) (o : zdo) (x : zab × zai) : Prop := ∃ fr', zn5 C o (.next ⟨fr', acs, x.2⟩) /\ zuy C f fr' x.2 x.1
theorem Fin.step {C : Ctx} {f : Nat} {acs : List zau} {o : zdo} {x : zab × zai} (h : Fin C f acs (zjb C o) x) : Fin C f acs o x := by
 obtain ⟨fr, h1, h2⟩ := h; exact ⟨fr, .step h1, h2⟩
theorem Fin.of {C : Ctx} {f : Nat} {acs : List zau} {o o' : zdo} {x : zab × zai} (hr : zn5 C o o') (h : Fin C f acs o' x) : Fin C f acs o x := by
 obtain ⟨fr, h1, h2⟩ := h; exact ⟨fr, hr.trans h1, h2⟩
structure SoundK (C : Ctx) (f : Nat) (acs : List zau) (R : zgi) (κ : Kt) (k : List zcd) (x : zab × zai) : Prop where
 norm : ∀ tm H, κ.norm tm H = some x -> Fin C f acs (.next ⟨⟨k, tm, R⟩, acs, H⟩) x
 exit : ∀ i tm H, κ.exit i tm H = some x -> ∃ k', zgg i k = some k' /\ Fin C f acs (.next ⟨⟨k', tm, R⟩, acs, H⟩) x
 ret : ∀ tm H, κ.ret tm H = some x -> ∀ k', Fin C f acs (.next ⟨⟨.code .ret :: k', tm, R⟩, acs, H⟩) x
section
variable {C : Ctx} {φ : Ora} {f N : Nat} {acs : List zau} {R : zgi} {κ : Kt} {k : List zcd} {x : zab × zai} {all : Array Oper}
theorem zd4 (hR : R.mode.running = true) {todo : List zcd} {tm : Tm} {H : zai} : zjb C (.next ⟨⟨todo, tm, R⟩, acs, H⟩) = zuo C todo tm R acs H := by
 show (bif R.mode.running then zuo C todo tm R acs H else _) = _
 rw [hR]; rfl
theorem zzhc {fr c c' : zau} {H : zai} {v : zab} (hr : zuy C f fr H v) (hf : zcp c v = some c') : zjb C (.next ⟨fr, c :: acs, H⟩) = .next ⟨c', acs, H⟩ := by
 obtain ⟨h1, h2, h3, h4, fn, l, h5, h6, rfl⟩ := hr
 obtain ⟨todo, tm, ffn, n, defers, mode, deferred, round⟩ := fr
 simp only at h1 h2 h3 h4 h6
 subst h1 h2 h3 h4
 show zpn C ⟨todo, tm, _⟩ (c :: acs) H = _
 unfold zpn; rw [h5, zac, h6]; simp only [cond_false]; rw [hf]; rfl
theorem zsj (hφ : zov C φ) {r : ztd} {H : zai} {K : zab -> zai -> zb7} (h : zjz φ r H K = some x) {fr : zau}
  (hK : ∀ v H' c', zcp fr v = some c' -> K v H' = some x -> Fin C f acs (.next ⟨c', acs, H'⟩) x) (hfin : ∀ v, ∃ c', zcp fr v = some c') : Fin C f acs (zn4 r C fr acs H) x := by
 cases r <;> simp only [zjz] at h <;> try (cases h; done)
 case val v H' =>
  have h2 : K v H' = some x := h
  obtain ⟨c', hc⟩ := hfin v
  show Fin C f acs (zzf9 v H' C fr acs H) x
  unfold zzf9; rw [hc]; exact hK _ _ _ hc h2
 case enter g args =>
  rw [zad] at h; obtain ⟨p, h1, h4⟩ := h
  obtain ⟨c', hc⟩ := hfin p.1
  show Fin C f acs (zvy g args C fr acs H) x
  unfold zvy; obtain ⟨ge, he, r0⟩ := hφ _ _ _ _ h1
  obtain ⟨fr', r1, r2⟩ := r0 (fr :: acs)
  rw [he]; refine Fin.of (r1.trans (.step ?_)) (hK _ _ _ hc h4)
  rw [zzhc r2 hc]; exact .refl _
theorem z24 (hφ : zov C φ) (hR : R.mode.running = true) (hN : R.n = N) {κn : Tm -> zai -> zb7} (hκ : ∀ tm H, κn tm H = some x -> Fin C f acs (.next ⟨⟨k, tm, R⟩, acs, H⟩) x) :
  ∀ (l : List Oper) (tm : Tm) (H : zai), zxq C φ all N κn l tm H = some x -> Fin C f acs (zlj C all k R acs l tm H) x := by
 intro l; induction l with
 | nil => exact fun tm H h => hκ tm H h
 | cons o l ih =>
  intro tm H h; rw [zir, zad] at h; obtain ⟨w, h1, h⟩ := h
  rw [zlx, h1]
  cases w with
  | false => rw [if_neg (by simp)] at h; simp only []; rw [hN]; exact ih _ _ h
  | true =>
   rw [if_pos rfl] at h; simp only []; generalize (aop o.op).f C (.now tm) H = r at h
   cases hv : r.asVal with
   | some p =>
    have : r = .val p.1 p.2 := by cases r <;> simp [ztd.asVal] at hv; rw [<- hv]
    subst this; simp only [zjz, zcl] at h; obtain ⟨h2, h3⟩ := h
    simp only []; rw [hN]; exact ih _ _ h3
   | none =>
    refine zsj hφ h (fun v H' c' hc hK => ?_) fun v => ⟨⟨.ops all l :: k, putA R.n tm o.dst v, R⟩, by unfold zcp; simp only [hR, cond_true]; rfl⟩
    unfold zcp at hc; simp only [hR, cond_true] at hc; have hc : some (⟨.ops all l :: k, putA R.n tm o.dst v, R⟩ : zau) = some c' := hc
    cases hc; refine .step ?_
    rw [zd4 hR, hN]; rw [zcl] at hK; exact ih _ _ hK.2
theorem zoh {H : zai} {old : Tm} {olds : List (Nat × List Nat)} {K : Tm -> zb7} : ∀ (l : List Nat) (tm : Tm), zcf C H all N old olds K l tm = some x -> ∃ tm', zhi C H all N old olds l tm = some tm' /\ K tm' = some x := by
 intro l; induction l with
 | nil => exact fun tm h => ⟨tm, rfl, h⟩
 | cons i l ih =>
  intro tm h; rw [zh8, zad] at h; obtain ⟨o, h1, h⟩ := h
  rw [zad] at h; obtain ⟨w, h2, h⟩ := h
  unfold zhi; rw [h1, zac, h2, zac]
  cases w with
  | false => rw [if_neg (by simp)] at h; simp only [cond_false, zac]; exact ih _ h
  | true =>
   rw [if_pos rfl, zad] at h; obtain ⟨v, h3, h⟩ := h
   rw [zcl] at h; obtain ⟨h4, h⟩ := h
   simp only [cond_true]; rw [h3, zac]; exact ih _ h
theorem ztv (hφ : zov C φ) (hR : R.mode.running = true) (hN : R.n = N) {κn : Tm -> zai -> zb7} (hκ : ∀ tm H, κn tm H = some x -> Fin C f acs (.next ⟨⟨k, tm, R⟩, acs, H⟩) x) {old : Tm} {olds : List (Nat × List Nat)} :
  ∀ (l : List zd3) (tm : Tm) (H : zai), zco C φ all N old olds κn l tm H = some x -> Fin C f acs (.next ⟨⟨.reg all old olds l :: k, tm, R⟩, acs, H⟩) x := by
 intro l; induction l with
 | nil =>
  intro tm H h; refine .step ?_
  rw [zd4 hR]; exact hκ tm H h
 | cons st l ih =>
  intro tm H h; rw [ze1, zad] at h; obtain ⟨o, h1, h⟩ := h
  rw [zad] at h; obtain ⟨w, h2, h⟩ := h
  have back0 : ∀ v H' c', zcp (⟨.reg all old olds (st :: l) :: k, tm, R⟩ : zau) v = some c' →
    zfl C H' all old olds (putA N tm o.dst v) (zcf C H' all N old olds (fun tm => zco C φ all N old olds κn l tm H') st.lights (putA N tm o.dst v)) st.again = some x -> Fin C f acs (.next ⟨c', acs, H'⟩) x := by
   intro v H' c' hc hK; unfold zcp at hc; simp only [hR, cond_true] at hc; have hc : (ob (ze5 all.toList st.heavy) fun o => some (⟨.reg all old olds (⟨all.size, st.lights, st.again⟩ :: l) :: k, putA R.n tm o.dst v, R⟩ : zau)) = some c' := hc
   rw [h1, zac] at hc
   cases hc; refine .step ?_
   rw [zd4 hR, hN]; obtain ⟨ha, hl⟩ := zjo _ hK
   obtain ⟨tm', hl1, hl2⟩ := zoh _ _ hl
   show Fin C f acs (zzak all old olds (⟨all.size, st.lights, st.again⟩ :: l) C k (putA N tm o.dst v) R acs H') x
   unfold zzak; have : ze5 all.toList all.size = none := by rw [zbh]; simp
   simp only [this]; rw [zar, if_neg fun e => by have := zdi.1 e; rw [zbc] at this; simp at this]
   show Fin C f acs (zph all old olds ⟨all.size, st.lights, st.again⟩ l C k (putA N tm o.dst v) R acs H') x
   unfold zph; simp only [ha, hN, hl1, zac]; exact ih _ _ hl2
  have back : ∀ v H' c', zcp (⟨.reg all old olds (st :: l) :: k, tm, R⟩ : zau) v = some c' →
    (zit C o.type v fun v => zfl C H' all old olds (putA N tm o.dst v) (zcf C H' all N old olds (fun tm => zco C φ all N old olds κn l tm H') st.lights (putA N tm o.dst v)) st.again) = some x -> Fin C f acs (.next ⟨c', acs, H'⟩) x := by
   intro v H' c' hc hK; rw [zcl] at hK; exact back0 v H' c' hc hK.2
  refine .step ?_
  rw [zd4 hR]; show Fin C f acs (zzak all old olds (st :: l) C k tm R acs H) x
  unfold zzak; simp only [h1]; unfold zz4; rw [h2]; simp only []; have hfin : ∀ v, ∃ c', zcp (⟨.reg all old olds (st :: l) :: k, tm, R⟩ : zau) v = some c' := fun v => ⟨⟨.reg all old olds (⟨all.size, st.lights, st.again⟩ :: l) :: k, putA R.n tm o.dst v, R⟩, by
   unfold zcp; simp only [hR, cond_true]; show (ob (ze5 all.toList st.heavy) fun o => some (⟨.reg all old olds (⟨all.size, st.lights, st.again⟩ :: l) :: k, putA R.n tm o.dst v, R⟩ : zau)) = _
   rw [h1]; rfl⟩
  cases w with
  | true =>
   simp only [if_true] at h; exact zsj hφ h back hfin
  | false =>
   simp only [yar, if_false] at h; obtain ⟨c', hc⟩ := hfin zbr
   show Fin C f acs (zzf9 zbr H C _ acs H) x
   unfold zzf9; rw [hc]; exact back0 _ _ _ hc h
theorem zzcg {live : List Nat} {tm : Tm} {i : Nat} {v : zab} (h : (keep live tm).get i = some v) : tm.get i = some v := by
 unfold keep Tm.get at h; simp only [zm2] at h; split at h
 case isFalse => cases h
 rename_i hk; have key : ∀ live : List Nat, (zwp tm live).get i = some v -> tm.get i = some v := by
  intro live; induction live with
  | nil => intro h; rw [show zwp tm [] = .leaf from rfl, Tr.get_leaf] at h; cases h
  | cons j live ih =>
   intro h; have h : (match tm.get j with | some v => (zwp tm live).set j v | none => zwp tm live : Tr zab).get i = some v := h
   cases hj : tm.get j with
   | none => rw [hj] at h; exact ih h
   | some u =>
    rw [hj] at h; simp only [] at h; rw [Tr.get_set] at h; split at h
    ·rename_i e; rw [e, hj]; exact h
    ·exact ih h
 exact key live h
theorem zs5 {todo : List zcd} (hr : zzch todo = false) {live : List Nat} {tm : Tm} {H : zai} (h : Fin C f acs (.next ⟨⟨todo, keep live tm, R⟩, acs, H⟩) x) : Fin C f acs (.next ⟨⟨todo, tm, R⟩, acs, H⟩) x :=
 Fin.of (.forget hr (fun _ _ => zzcg) (.refl _)) h
theorem zwv (hR : R.mode.running = true) {t1 t2 : List zcd} (h1 : zzch t1 = false) (hs : ∀ tm H, zuo C t1 tm R acs H = zuo C t2 tm R acs H) {tm : Tm} {H : zai} (h : Fin C f acs (.next ⟨⟨t2, tm, R⟩, acs, H⟩) x) : Fin C f acs (.next ⟨⟨t1, tm, R⟩, acs, H⟩) x := by
 obtain ⟨fr, hr, hv⟩ := h
 refine ⟨fr, ?_, hv⟩
 generalize ho : (.next ⟨⟨t2, tm, R⟩, acs, H⟩ : zdo) = o at hr
 generalize ho' : (.next ⟨fr, acs, x.2⟩ : zdo) = o' at hr
 induction hr generalizing tm with
 | refl =>
  subst ho'
  cases ho; rw [hv.1] at hR; cases hR
 | step h ih =>
  subst ho; refine .step ?_
  rw [zd4 hR, hs, <- zd4 hR]; exact h
 | forget hr2 hs2 h ih =>
  cases ho; exact .forget h1 hs2 (ih rfl ho')
theorem z9h (hφ : zov C φ) (hR : R.mode.running = true) (hN : R.n = N) (hfn : R.fn = f) : ∀ (c : zdd) (κ : Kt) (k : List zcd), SoundK C f acs R κ k x -> ∀ tm H, den C φ f N c κ tm H = some x -> Fin C f acs (.next ⟨⟨.code (ze6 c) :: k, tm, R⟩, acs, H⟩) x := by
 intro c; induction c with
 | skip =>
  intro κ k hκ tm H h; refine .step ?_
  rw [zd4 hR]; exact hκ.norm _ _ h
 | region id ops d =>
  intro κ k hκ tm H h; refine .step ?_
  rw [zd4 hR]
  cases d with
  | false => exact z24 hφ hR hN hκ.norm _ _ _ h
  | true =>
   have h : (ob (ob (C.plans.get f) fun t => t.get id) fun p => zan (zjt ops p) (zcf C H ops N tm.cut p.olds (fun tm' => zco C φ ops N tm.cut p.olds κ.norm p.stages tm' H) p.first tm.cut)) = some x := h
   rw [zad] at h; obtain ⟨p, h1, h⟩ := h
   rw [zae] at h; obtain ⟨tm', hl1, hl2⟩ := zoh _ _ h.2
   show Fin C f acs (z4e id ops C k tm R acs H) x
   unfold z4e; rw [hfn, h1, zac, h.1, hN, hl1]; exact ztv hφ hR hN hκ.norm _ _ _ hl2
 | seq a b iha ihb =>
  intro κ k hκ tm H h; refine zwv hR (t1 := .code (ze6 (.seq a b)) :: k) rfl (t2 := .code (ze6 a) :: .code (ze6 b) :: k) (fun _ _ => rfl) ?_
  refine iha ⟨den C φ f N b κ, κ.exit, κ.ret⟩ _ ⟨fun tm H h => ihb _ _ hκ tm H h, fun i tm H h => ?_, hκ.ret⟩ tm H h
  obtain ⟨k', h1, h2⟩ := hκ.exit i tm H h
  exact ⟨k', h1, h2⟩
 | cond c a b iha ihb =>
  intro κ k hκ tm H h; have h : (ob (ob (ev c (.now tm)) zab.asBool) fun t => Bool.rec (motive := fun _ => zb7) (den C φ f N b κ tm H) (den C φ f N a κ tm H) t) = some x := h
  rw [zad] at h; obtain ⟨t, h1, h⟩ := h
  refine .step ?_
  rw [zd4 hR]; show Fin C f acs (z4f c (ze6 a) (ze6 b) C k tm R acs H) x
  unfold z4f; rw [h1]
  cases t with
  | true => exact iha _ _ hκ _ _ h
  | false => exact ihb _ _ hκ _ _ h
 | block id c ih =>
  intro κ k hκ tm H h; refine .step ?_
  rw [zd4 hR]; have nx : ∀ tm H, κ.norm tm H = some x -> Fin C f acs (.next ⟨⟨.inBlock id :: k, tm, R⟩, acs, H⟩) x := by
   intro tm H h; refine .step ?_
   rw [zd4 hR]; exact hκ.norm _ _ h
  refine ih ⟨κ.norm, fun i tm H => Bool.rec (motive := fun _ => zb7) (κ.exit i tm H) (κ.norm tm H) (Nat.beq id i), κ.ret⟩ _ ⟨nx, fun i tm H h => ?_, hκ.ret⟩ tm H h
  simp only [zm2] at h; unfold zgg; simp only [zcd.blockId]; rw [zar]; split at h
  ·rename_i e; rw [if_pos e]; exact ⟨k, rfl, hκ.norm _ _ h⟩
  ·rename_i e; rw [if_neg e]; exact hκ.exit _ _ _ h
 | loop live c ih =>
  intro κ k hκ tm H h; obtain ⟨m, hm⟩ := z7s h
  have it : ∀ (m : Nat) tm H, (Nat.rec (motive := fun _ => Tm -> zai -> zb7) (fun _ _ => none) (fun _ r tm H => den C φ f N c ⟨r, κ.exit, κ.ret⟩ (keep live.kept tm) H) m : Tm -> zai -> zb7) tm H = some x -> Fin C f acs (.next ⟨⟨.inLoop (ze6 c) :: k, tm, R⟩, acs, H⟩) x := by
   intro m; induction m with
   | zero => intro tm H h; cases h
   | succ m ihm =>
    intro tm H h; refine zs5 (live := live.kept) rfl (.step ?_)
    rw [zd4 hR]; exact ih ⟨_, κ.exit, κ.ret⟩ _ ⟨ihm, fun i tm H h => hκ.exit i tm H h, hκ.ret⟩ _ _ h
  exact zwv hR (t1 := .code (ze6 (.loop live c)) :: k) rfl (t2 := .inLoop (ze6 c) :: k) (fun _ _ => rfl) (it m tm H hm)
 | exit id =>
  intro κ k hκ tm H h; obtain ⟨k', h1, h2⟩ := hκ.exit id tm H h
  refine .step ?_
  rw [zd4 hR]; show Fin C f acs (z4d id C k tm R acs H) x
  unfold z4d; rw [h1]; exact h2
 | ret => exact fun κ k hκ tm H h => hκ.ret tm H h k
 | cut live c ih => exact fun κ k hκ tm H h => zs5 rfl (ih κ k hκ _ _ h)
end
end Go.Am
namespace Go.Am
open Go Go.RowKit
def endK (C : Ctx) (fn : Func) (tm : Tm) (H : zai) : zb7 := ob (zjf C H tm fn.results.toList) fun l => some (zls l, H)
def zzat (C : Ctx) (fn : Func) : Kt := ⟨endK C fn, fun _ _ _ => none, endK C fn⟩
def znc (C : Ctx) (A : Tr zdd) (φ : Ora) : Ora := fun f args H => ob (A.get f) fun c => ob (C.fns.get f) fun fn => ob (zeo C f args false) fun g => den C φ f fn.ntmps c (zzat C fn) g.tm H
def zzed (C : Ctx) (A : Tr zdd) : Nat -> Ora
 | 0 => fun _ _ _ => none
 | n + 1 => znc C A (zzed C A n)
def fnV (C : Ctx) (A : Tr zdd) : Ora := fun f args H => lim fun n => zzed C A n f args H
section
variable {C : Ctx} {A : Tr zdd}
theorem zr9 {φ φ' : Ora} (h : OLe φ φ') : OLe (znc C A φ) (znc C A φ') := by
 intro f args H x hx; unfold znc at hx ⊢
 rw [zad] at hx ⊢
 obtain ⟨c, h1, hx⟩ := hx
 refine ⟨c, h1, ?_⟩
 rw [zad] at hx ⊢
 obtain ⟨fn, h2, hx⟩ := hx
 refine ⟨fn, h2, ?_⟩
 rw [zad] at hx ⊢
 obtain ⟨g, h3, hx⟩ := hx
 exact ⟨g, h3, zk4 h c _ _ (KLe.refl _) _ _ _ hx⟩
theorem z7e : ∀ n, OLe (zzed C A n) (zzed C A (n + 1)) := by
 intro n; induction n with
 | zero => intro f args H x h; cases h
 | succ n ih => exact zr9 ih
theorem zmw {f : Nat} {args : List zab} {H : zai} {x : zab × zai} : fnV C A f args H = some x ↔ ∃ n, zzed C A n f args H = some x :=
 zo8 fun n _ hy => z7e n _ _ _ _ hy
theorem zzhh : zzff (zzed C A) (fnV C A) := ⟨z7e, fun _ _ _ _ h => zmw.1 h⟩
theorem fnV_eq (f : Nat) (args : List zab) (H : zai) : fnV C A f args H = znc C A (fnV C A) f args H := by
 have key : ∀ x, fnV C A f args H = some x ↔ znc C A (fnV C A) f args H = some x := by
  intro x; constructor
  ·intro h
   obtain ⟨n, hn⟩ := zmw.1 h
   cases n with
   | zero => cases hn
   | succ n => exact zr9 (fun f a H y hy => zmw.2 ⟨n, hy⟩) _ _ _ _ hn
  ·intro h
   unfold znc at h; rw [zad] at h; obtain ⟨c, h1, h⟩ := h
   rw [zad] at h; obtain ⟨fn, h2, h⟩ := h
   rw [zad] at h; obtain ⟨g, h3, h⟩ := h
   have sup : SupK (fun _ => zzat C fn) (zzat C fn) := ⟨⟨fun _ _ _ _ h => h, fun _ _ _ h => ⟨0, h⟩⟩, fun i => ⟨fun _ _ _ _ h => h, fun _ _ _ h => ⟨0, h⟩⟩, ⟨fun _ _ _ _ h => h, fun _ _ _ h => ⟨0, h⟩⟩⟩
   obtain ⟨n, hn⟩ := (z9g zzhh c _ _ sup).ex _ _ _ h
   refine zmw.2 ⟨n + 1, ?_⟩
   show znc C A (zzed C A n) f args H = some x
   unfold znc; rw [h1, zac, h2, zac, h3, zac]; exact hn
 cases h : fnV C A f args H with
 | some x => exact ((key x).1 h).symm
 | none =>
  cases h2 : znc C A (fnV C A) f args H with
  | none => rfl
  | some x => rw [(key x).2 h2] at h; cases h
def zl5 (C : Ctx) (A : Tr zdd) : Prop := ∀ f c, A.get f = some c -> ∃ fn, C.fns.get f = some fn /\ fn.body = some (ze6 c)
theorem zzi {f : Nat} {args : List zab} {g : zau} (h : zeo C f args false = some g) : ∃ fn c, C.fns.get f = some fn /\ fn.body = some c /\ g.todo = [.code c] /\ g.R = ⟨f, fn.ntmps, [], .run, false, none⟩ := by
 unfold zeo at h; simp only [zad, zae] at h; obtain ⟨fn, h1, c, h2, k, h3, _, h⟩ := h
 cases h; exact ⟨fn, c, h1, h2, rfl, rfl⟩
theorem z1z {f : Nat} {fn : Func} {acs : List zau} {x : zab × zai} (hf : C.fns.get f = some fn) {tm : Tm} {H : zai} (h : endK C fn tm H = some x) {todo : List zcd} {R : zgi} (hR : R = ⟨f, fn.ntmps, [], .run, false, none⟩)
  (hs : zuo C todo tm R acs H = .next ⟨zp3 ⟨todo, tm, R⟩ .returning, acs, H⟩) : Fin C f acs (.next ⟨⟨todo, tm, R⟩, acs, H⟩) x := by
 unfold endK at h; rw [zad] at h; obtain ⟨l, h1, h2⟩ := h
 cases h2; refine .step ?_
 rw [zd4 (by rw [hR]; rfl), hs]
 subst hR; exact ⟨_, .refl _, rfl, rfl, rfl, rfl, fn, l, hf, h1, rfl⟩
theorem zye (hA : zl5 C A) {φ : Ora} (hφ : zov C φ) : zov C (znc C A φ) := by
 intro f args H x h; unfold znc at h; rw [zad] at h; obtain ⟨c, h1, h⟩ := h
 rw [zad] at h; obtain ⟨fn, h2, h⟩ := h
 rw [zad] at h; obtain ⟨g, h3, h⟩ := h
 refine ⟨g, h3, fun acs => ?_⟩
 obtain ⟨fn', c', e1, e2, e3, e4⟩ := zzi h3
 rw [h2] at e1; cases e1
 obtain ⟨fn', e5, e6⟩ := hA f c h1
 rw [h2] at e5; cases e5
 rw [e2] at e6; cases e6
 obtain ⟨gt, gtm, gR⟩ := g
 simp only at e3 e4 h
 subst e3; have := z9h (acs := acs) (R := gR) (x := x) hφ (by rw [e4]; rfl) (by rw [e4]) (by rw [e4]) c (zzat C fn) [] ⟨?_, ?_, ?_⟩ gtm H h
 ·exact this
 ·intro tm H h
  exact z1z h2 h e4 (by rw [e4]; rfl)
 ·intro i tm H h
  cases h
 ·intro tm H h k'
  exact z1z h2 h e4 (by rw [e4]; rfl)
theorem z27 (hA : zl5 C A) : ∀ n, zov C (zzed C A n) := by
 intro n; induction n with
 | zero => intro f args H x h; cases h
 | succ n ih => exact zye hA ih
theorem z81 (hA : zl5 C A) : zov C (fnV C A) := by
 intro f args H x h; obtain ⟨n, hn⟩ := zmw.1 h
 exact z27 hA n _ _ _ _ hn
theorem zw8 {P : Program} {B N : Nat} {I : World -> Prop} {μ : Mu} {w : World} (hS : Sim P C B N I) (hI : I w) (hA : zl5 C A) {f : Nat} {args : List zab} {args' : Array Value} {H H' : zai} {v : zab} (hH : zb1 B N μ H w) (hl : zby μ args args'.toList)
  (h : fnV C A f args H = some (v, H')) : Calls P f args' w fun e w' => ∃ v' μ', e = .returned v' /\ μ.lw μ' /\ zaq μ' v v' /\ zb1 B N μ' H' w' /\ Below N w w' := by
 intro base; obtain ⟨g, he, hr⟩ := z81 hA _ _ _ _ h
 obtain ⟨fr', r1, h1, h2, h3, h4, fn, l, h5, h6, rfl⟩ := hr []
 have h0 : zb3 P C B N μ base (lone (Frame.enter P f args' .normal) base w) w (.next ⟨g, [], H⟩) := zza3 hS.fns hH hl he
 obtain ⟨μ', b, cs, w', s1, s2, s3, s4, s5, s6⟩ := zb3.reach hS hI r1 h0
 cases s6
 have hb := s5.body
 rw [if_neg (by rw [h1]; simp [zrz.running])] at hb
 obtain ⟨v', q1, q2⟩ := zsh hS.tys s4 hb h6
 have hm := s5.rest.mode
 rw [h1] at hm; have hbm : b.mode = .returning := by
  cases hb : b.mode with
  | returning => rfl
  | _ => rw [hb] at hm; exact hm.elim
 have hd := s5.rest.defers
 rw [h2] at hd; have hbd : b.defers = [] := by
  generalize hx : b.defers = bd at hd
  cases hd; rfl
 have hk := s5.rest.kind
 rw [h3] at hk; have hfn : b.fn = f := by rw [s5.rest.fn, h4]
 exact ⟨.returned v', w', b, ⟨v', μ', rfl, s2, q2, s4, s3⟩, s1, hfn, hbm, hbd, hk, fn, by rw [hfn]; exact (hS.fns _ _ h5).1, q1⟩
end
end Go.Am
namespace Go.Am
open Go Go.RowKit
def zap (C : Ctx) (t : Nat) (H : zai) (v : zab) : Option zab := ob v.asPtr fun p => ob (C.tys.get t) fun ty => ob (za1 H p.1) fun c => znp ty c.1 p.2
def zl7 (C : Ctx) (s d : Nat) (H : zai) (a : zab) : Option zab := ob (C.tys.get s) fun s => ob (C.tys.get d) fun d => zn0 C s d a H
def zen (C : Ctx) (t : Nat) (H : zai) (a : zab) (l h : Option zab) : Option zab := ob (C.tys.get t) fun ty => zh2 C H ty a l h
def zf5 (C : Ctx) (s f : Nat) : Option Nat := ob (C.tys.get s) fun ty => ob ty.desc.asStruct fun fs => ob (ze5 fs f) fun fd => zan (!Nat.beq fd.2.2 0) (some fd.1)
def zaj (C : Ctx) (s f : Nat) (v : zab) : Option zab := ob (zf5 C s f) fun k => ob v.asPtr fun p => some (.ptr p.1 (p.2 + k))
def zaf (C : Ctx) (t : Nat) (v i : zab) : Option zab :=
 ob (C.tys.get t) fun ty => ob i.asNat fun i =>
  match v.asSlice with
  | some s => ob ty.desc.asSlice fun el => ob (C.tys.get el) fun et => zan (Nat.blt i s.2.2.1) (some (.ptr s.1 (s.2.1 + i * et.size)))
  | none => ob v.asPtr fun p => ob ty.desc.asArr fun a => ob (C.tys.get a.2) fun et => zan (Nat.blt i a.1) (some (.ptr p.1 (p.2 + i * et.size)))
def zz6 (C : Ctx) (t i : Nat) : Option Nat := ob (C.tys.get t) fun ty => ob ty.desc.asArr fun a => ob (C.tys.get a.2) fun et => zan (Nat.blt i a.1) (some (i * et.size))
def zjq (C : Ctx) (t : Nat) (v i : zab) : Option zab :=
 ob (C.tys.get t) fun ty => ob i.asNat fun i =>
  match v.asStr with
  | some s => zan ty.desc.isString (ob (ze5 s i) fun b => some (.int .u8 (.ofNat b)))
  | none => ob v.asAgg fun l => ob ty.desc.asArr fun a => ob (C.tys.get a.2) fun et => zan (Nat.blt i a.1) (zoz C a.2 l (i * et.size))
def zas (i : Nat) (v : zab) : Option zab := ob v.asTup fun l => ze5 l i
def z39 (C : Ctx) (t : Nat) (H : zai) (v : zab) : Option zab := ob (C.tys.get t) fun ty => ob (z7w H ty v) fun n => some (.int .i64 (.ofNat n))
def za8 (v : zab) : Option zab :=
 match v.asSlice with
 | some s => some (.int .i64 (.ofNat s.2.2.1))
 | none => zan (Nat.beq v.tag 5) (some (.int .i64 (.ofNat 0)))
def zrn (v : zab) : Option zab := zan (Nat.beq v.tag 4 || Nat.beq v.tag 9) (some v)
def zx3 (C : Ctx) (u : Nat) (ok : Bool) (v : zab) : Option zab :=
 ob (C.tys.get u) fun ty => zan (Nat.blt ty.desc.tag 9) (
  match v.asIface with
  | some p => bif Nat.beq p.1 u then some (bif ok then .tup [p.2, .bool true] else p.2) else zan ok (some (.tup [zrp ty, .bool false]))
  | none => zan (Nat.beq v.tag 12 && ok) (some (.tup [zrp ty, .bool false])))
def zid (C : Ctx) (t : Nat) (H : zai) (m k : zab) (ok : Bool) : Option zab :=
 ob (C.tys.get t) fun ty => ob ty.desc.asMap fun ke => ob (C.tys.get ke.1) fun kty => zan (zix kty.desc) (ob (C.tys.get ke.2) fun ety =>
  ob (zrw H m) fun es => zan (zsz kty.desc k) (ob (zul k es) fun r =>
   match r with
   | some v => some (bif ok then .tup [v, .bool true] else v)
   | none => some (bif ok then .tup [zrp ety, .bool false] else zrp ety)))
def zle (C : Ctx) (t : Nat) (H : zai) : Option (zab × zai) := ob (C.tys.get t) fun ty => some (.ptr H.next 0, za7 H ty.zero none)
def z4t (v : zab) (H : zai) : Option (zab × zai) := some (.ptr H.next 0, za7 H v.cells none)
def za0 (C : Ctx) (t len : Nat) (ps : List (Nat × zab)) (H : zai) : Option (zab × zai) :=
 ob (C.tys.get t) fun ty => ob ty.desc.asSlice fun el => ob (C.tys.get el) fun et =>
  zan (Nat.blt (len * et.size) 1000000 && Nat.beq (zbv et.zero) et.size) (ob (zo0 (fun i => some (i * et.size, et.size)) ps (zsk et.zero len)) fun l => some (.slice H.next 0 len len, za7 H l none))
def zbz (C : Ctx) (t : Nat) (a v : zab) (H : zai) : Option (zab × zai) := ob (C.tys.get t) fun ty => ob a.asPtr fun p => zan (Nat.beq (zbv v.cells) ty.size) (ob (zh1 C H p.1 p.2 v.cells) fun H' => some (zbr, H'))
def zkt (H : zai) : Option (zab × zai) := some (.map H.next, newBlk H (.map []))
def zj4 (C : Ctx) (t : Nat) (m k v : zab) (H : zai) : Option (zab × zai) :=
 ob (C.tys.get t) fun ty => ob ty.desc.asMap fun ke => ob (C.tys.get ke.1) fun kty => zan (zix kty.desc)
  (ob m.asMap fun b => zan (!Nat.blt b C.base) (ob (zgm H b) fun l => zan (zsz kty.desc k) (ob (zjd k v l) fun l' => some (zbr, setBlk H b (.map l')))))
def zce (C : Ctx) (t : Nat) (l c : zab) (H : zai) : Option (zab × zai) :=
 ob (C.tys.get t) fun ty => ob ty.desc.asSlice fun el => ob (C.tys.get el) fun et => ob l.asNat fun l => ob c.asNat fun c =>
  zan (Nat.ble l c && Nat.blt c 1000000 && Nat.blt (c * et.bytes) 1000000000 && Nat.beq (zbv et.zero) et.size) (some (.slice H.next 0 l c, za7 H (zsk et.zero c) none))
def zti (C : Ctx) (s d : Nat) (v : zab) (H : zai) : Option (zab × zai) :=
 ob (C.tys.get s) fun _ => ob (C.tys.get d) fun ty => ob ty.desc.asSlice fun el => ob (C.tys.get el) fun et => ob et.desc.asInt fun k => zan (kEq k .u8) (ob v.asStr fun l =>
  some (.slice H.next 0 (zbv l) (zbv l), za7 H (zfj l) (some 1)))
def zbm (C : Ctx) (t u : Nat) (a b : zab) (H : zai) : Option (zab × zai) := ob (C.tys.get t) fun ty => ob (C.tys.get u) fun uty => zan (!Nat.beq uty.desc.tag 1) (zgh C H ty a b)
def vNext (v : zab) (H : zai) : Option (zab × zai) := ob v.asPtr fun p => zan (Nat.beq p.2 0) (ob (ob (H.t.get p.1) zam.asIter) fun x =>
 match ze5 x.1 x.2 with
 | some c => zan (Nat.blt c 128) (some (.tup [.bool true, .int .i64 (.ofNat x.2), .int .i32 (.ofNat c)], setBlk H p.1 (.siter x.1 (x.2 + 1))))
 | none => some (.tup [.bool false], H))
structure zzae where
 b : Nat -> Bool
 i : Nat -> Int
 s : Nat -> List Nat
 v : Nat -> zab
inductive T where
 | ret (v : zab)
 | fail
 | ite (b : Bool) (x y : T)
 | opt (x : Option zab) (K : zab -> T)
 | light (x : Tr zam -> Option zab) (K : zab -> T)
 | heavy (x : zai -> Option (zab × zai)) (K : zab -> T)
 | call (f : Nat) (args : List zab) (K : zab -> T)
 | callv (f : zab) (args : List zab) (K : zab -> T)
 | asI (k : IntKind) (v : zab) (K : Int -> T)
 | asB (v : zab) (K : Bool -> T)
 | asS (v : zab) (K : List Nat -> T)
 | asG (zs : List zab) (v : zab) (K : zzae -> T)
 | jump (i : Nat) (vals : List zab)
def z7h (z : zab) (X : zzae) (j : Nat) : zab :=
 match z with
 | .bool _ => .bool (X.b j)
 | .int k _ => .int k (X.i j)
 | .str _ => .str (X.s j)
 | _ => X.v j
def znl (zs : List zab) (X : zzae) : Nat -> List zab :=
 List.rec (motive := fun _ => Nat -> List zab) (fun _ => []) (fun z _ g j => z7h z X j :: g (j + 1)) zs
def zc2 (l : List zab) (j : Nat) : Bool := match l[j]? with | some (.bool b) => b | _ => false
def zhu (l : List zab) (j : Nat) : Int := match l[j]? with | some (.int _ n) => n | _ => 0
def zht (l : List zab) (j : Nat) : List Nat := match l[j]? with | some (.str s) => s | _ => []
def zet (l : List zab) (j : Nat) : zab := match l[j]? with | some v => v | _ => .nilptr
def cellsOf (l : List zab) : zzae := ⟨zc2 l, zhu l, zht l, zet l⟩
def zj0 (z a : zab) : Bool :=
 match z with
 | .bool _ => Nat.beq a.tag 0
 | .int k _ => match a.asIntK with | some p => kEq p.1 k | none => false
 | .str _ => Nat.beq a.tag 2
 | .nilptr => Nat.beq a.tag 3 || Nat.beq a.tag 4
 | .nilslice => Nat.beq a.tag 5 || Nat.beq a.tag 6
 | .nilmap => Nat.beq a.tag 7 || Nat.beq a.tag 8
 | .nilfunc => Nat.beq a.tag 10 || Nat.beq a.tag 9
 | .niliface => Nat.beq a.tag 12 || Nat.beq a.tag 11
 | _ => false
def zmx : List zab -> List zab -> Bool
 | [], [] => true
 | z :: zs, a :: l => zj0 z a && zmx zs l
 | _, _ => false
structure TSt where
 tm : Tm
 ad : List (Nat × Nat × Nat)
 lo : Tr (List zab)
 lit : List Nat
abbrev KT := TSt -> T
structure KtT where
 norm : KT
 exit : Nat -> KT
 ret : KT
def obT {α : Type} (x : Option α) (K : α -> T) : T := Option.rec (motive := fun _ => T) .fail K x
def gdT (b : Bool) (K : T) : T := Bool.rec (motive := fun _ => T) .fail K b
def zga (i : Nat) (l : List (Nat × Nat × Nat)) : Option (Nat × Nat) :=
 List.rec (motive := fun _ => Option (Nat × Nat)) none (fun a _ g => Bool.rec (motive := fun _ => Option (Nat × Nat)) g (some a.2) (Nat.beq i a.1)) l
inductive zxt where
 | now (ad : List (Nat × Nat × Nat))
 | mixed (ad old : List (Nat × Nat × Nat)) (olds names : List Nat)
def tAd (e : zxt) (t : Nat) : Option (Nat × Nat) :=
 match e with
 | .now ad => zga t ad
 | .mixed ad old olds names => bif zcw t names then zga t (bif zcw t olds then old else ad) else none
def xAd (e : zxt) (x : Operand) : Option (Nat × Nat) :=
 match x with
 | .tmp t => tAd e t
 | _ => none
def H0A : zai := ⟨0, .leaf⟩
def zlg (C : Ctx) (t : Nat) : Nat :=
 match C.tys.get t with
 | some ty => ty.desc.tag
 | none => 10
def zud (x : Operand) : Bool :=
 match x with
 | .const _ => true
 | _ => false
def z9l (x : Operand) : Bool :=
 match x with
 | .const (.int _ n) => !iEq n 0
 | _ => false
def binDir (C : Ctx) (op : BinOp) (t : Nat) (y : Operand) : Bool :=
 match op with
 | .add => Nat.beq (zlg C t) 1
 | .sub => true
 | .mul => true
 | .quo => z9l y
 | .rem => z9l y
 | .shl => zud y
 | .shr => zud y
 | .eql => Nat.ble (zlg C t) 2
 | .neq => Nat.ble (zlg C t) 2
 | .lss => Nat.ble (zlg C t) 2
 | .leq => Nat.ble (zlg C t) 2
 | .gtr => Nat.ble (zlg C t) 2
 | .geq => Nat.ble (zlg C t) 2
 | _ => false
structure KOp where
 K : zab -> T
 Kd : zab -> T
 KA : Nat -> Nat -> T
def z0e (C : Ctx) (op : Op) (e : Env) (k : KOp) : T := obT ((zb5 op).f C e H0A) k.Kd
def zzaw (C : Ctx) (op : Op) (x : Operand) (e : Env) (ae : zxt) (k : KOp) : T :=
 match xAd ae x with
 | some p => k.KA p.1 p.2
 | none => z0e C op e k
def tLoad (C : Ctx) (t : Nat) (a : Operand) (e : Env) (ae : zxt) (lo : Tr (List zab)) (k : KOp) : T :=
 match xAd ae a with
 | some p => obT (lo.get p.1) fun l => obT (C.tys.get t) fun ty => gdT (Nat.ble (p.2 + ty.size) (zbv l)) (obT (zoz C t l p.2) k.Kd)
 | none => obT (ev a e) fun v => .light (fun m => zap C t ⟨0, m⟩ v) k.K
def zr8 (C : Ctx) (s : Nat) (x : Operand) (f : Nat) (e : Env) (ae : zxt) (k : KOp) : T :=
 match xAd ae x with
 | some p => obT (zf5 C s f) fun o => k.KA p.1 (p.2 + o)
 | none => obT (ev x e) fun v => .opt (zaj C s f v) k.K
def zr7 (C : Ctx) (t : Nat) (x i : Operand) (e : Env) (ae : zxt) (k : KOp) : T :=
 match xAd ae x with
 | some p => obT (ev i e) fun i => obT i.asNat fun i => obT (zz6 C t i) fun o => k.KA p.1 (p.2 + o)
 | none => obT (ev x e) fun v => obT (ev i e) fun i => .opt (zaf C t v i) k.K
def tNil (x : Operand) (e : Env) (ae : zxt) (k : KOp) : T :=
 match xAd ae x with
 | some p => k.KA p.1 p.2
 | none => obT (ev x e) fun v => .opt (zrn v) k.K
def tLen (C : Ctx) (c : Call) (e : Env) (k : KOp) : T :=
 obT (ze5 c.argTypes.toList 0) fun t => obT (ze5 c.args.toList 0) fun x => obT (ev x e) fun v =>
  bif Nat.beq (zlg C t) 4 then .opt (za8 v) k.K else bif Nat.beq (zlg C t) 6 then .light (fun m => z39 C t ⟨0, m⟩ v) k.K else obT (z39 C t H0A v) k.Kd
def tBin (C : Ctx) (op : BinOp) (t : Nat) (x y : Operand) (u : Nat) (e : Env) (k : KOp) : T :=
 bif binDir C op t y then z0e C (.binOp op t x y u) e k else obT (ev x e) fun a => obT (ev y e) fun b => .opt ((zxg op).f C t x y a b) k.K
def zzfu (C : Ctx) (s d : Nat) (x : Operand) (e : Env) (k : KOp) : T :=
 bif Nat.beq (zlg C d) 2 then (bif Nat.beq (zlg C s) 2 then z0e C (.convert s d x) e k else obT (ev x e) fun v => .light (fun m => zl7 C s d ⟨0, m⟩ v) k.K) else bif Nat.beq (zlg C d) 1 then z0e C (.convert s d x) e k else .fail
def zzdu (C : Ctx) (t : Nat) (x : Operand) (lo hi : Option Operand) (e : Env) (k : KOp) : T :=
 obT (ev x e) fun a => obT (evo lo e) fun l => obT (evo hi e) fun h =>
  bif Nat.beq (zlg C t) 2 then .opt (zen C t H0A a l h) k.K else .light (fun m => zen C t ⟨0, m⟩ a l h) k.K
def zmc (C : Ctx) (c : Call) (e : Env) (k : KOp) : Builtin -> T
 | .len => tLen C c e k
 | .max => z0e C (.call c) e k
 | .min => z0e C (.call c) e k
 | _ => .fail
def zs9 (ty : ATy) (v : zab) : List zab := bif ty.desc.isAgg then v.cells else [v]
def zzcw (cells : List zab) (off size : Nat) (vc : List zab) : Option (List zab) :=
 zan (Nat.beq (zbv vc) size && Nat.ble (off + zbv vc) (zbv cells)) (some (ziv (zqk cells off) (ziv vc (zjw cells (off + zbv vc)))))
def z62 (C : Ctx) (tyAt : Nat -> Option Nat) : List (Nat × zab) -> Option (List (Nat × zab × List zab) × List zab) :=
 List.rec (motive := fun _ => Option (List (Nat × zab × List zab) × List zab)) (some ([], []))
  (fun p _ g => ob (tyAt p.1) fun t => ob (C.tys.get t) fun ty => ob g fun r => some (bif ty.desc.isAgg then ((p.1, p.2, p.2.cells) :: r.1, r.2) else ((p.1, p.2, [p.2]) :: r.1, p.2 :: r.2)))
def zzcx (place : Nat -> Option (Nat × Nat)) : List (Nat × zab × List zab) -> List zab -> Option (List zab) :=
 List.rec (motive := fun _ => List zab -> Option (List zab)) (fun cells => some cells) (fun p _ g cells => ob (place p.1) fun q => ob (zzcw cells q.1 q.2 p.2.2) fun cells => g cells)
def tyAtS (ty : ATy) (i : Nat) : Option Nat :=
 match ty.desc.asStruct with
 | some fs => ob (ze5 fs i) fun x => some x.2.1
 | none => ob ty.desc.asArr fun a => some a.2
def zsn (C : Ctx) (ty : ATy) (i : Nat) : Option (Nat × Nat) :=
 match ty.desc.asStruct with
 | some fs => ob (ze5 fs i) fun x => some (x.1, x.2.2)
 | none => ob ty.desc.asArr fun a => ob (C.tys.get a.2) fun et => some (i * et.size, et.size)
def zxe (C : Ctx) (ty : ATy) : Bool :=
 match ty.desc.asStruct with
 | some _ => true
 | none => match ty.desc.asArr with
  | some a => (match C.tys.get a.2 with | some _ => true | none => false)
  | none => false
def zzdw (C : Ctx) (t : Nat) (ps : Array (Nat × Operand)) (e : Env) (k : KOp) : T :=
 obT (C.tys.get t) fun ty => gdT (zxe C ty) <| obT (evp ps.toList e) fun vs => obT (z62 C (tyAtS ty) vs) fun q => obT (zzcx (zsn C ty) q.1 ty.zero) fun l => .ite (zd1 zab.one q.2) (k.Kd (.agg l)) .fail
def tL (C : Ctx) (op : Op) (e : Env) (ae : zxt) (lo : Tr (List zab)) (k : KOp) : T :=
 match op with
 | .move x => zzaw C (.move x) x e ae k
 | .assign x => zzaw C (.assign x) x e ae k
 | .load t a => tLoad C t a e ae lo k
 | .fieldAddr s x f => zr8 C s x f e ae k
 | .indexAddr t x i => zr7 C t x i e ae k
 | .nilCheck x => tNil x e ae k
 | .binOp op t x y u => tBin C op t x y u e k
 | .convert s d x => zzfu C s d x e k
 | .slice t x lo hi none => zzdu C t x lo hi e k
 | .index t x i => bif zud i && Nat.beq (zlg C t) 5 then z0e C (.index t x i) e k else obT (ev x e) fun v => obT (ev i e) fun i => .opt (zjq C t v i) k.K
 | .extract t i => obT (ev t e) fun v => .opt (zas i v) k.K
 | .typeAssert x _ u ok => obT (ev x e) fun v => .opt (zx3 C u ok v) k.K
 | .lookup t x i ok => obT (ev x e) fun m => obT (ev i e) fun key => .light (fun h => zid C t ⟨0, h⟩ m key ok) k.K
 | .call c => match c.callee with
  | .builtin b => zmc C c e k b
  | _ => .fail
 | .pick c a b => z0e C (.pick c a b) e k
 | .unOp o t x => (match o with
  | .xor => obT (ev x e) fun v => .opt (zx5 v) k.K
  | o => z0e C (.unOp o t x) e k)
 | .makeInterface t x => z0e C (.makeInterface t x) e k
 | .makeFunc fn a b => z0e C (.makeFunc fn a b) e k
 | .field t x f => z0e C (.field t x f) e k
 | .build t ps => zzdw C t ps e k
 | _ => .fail
def laOf (la : List Nat) (dst : Option Nat) : Option Nat :=
 match dst with
 | some d => bif zcw d la then some d else none
 | none => none
structure KLo where
 new : Nat -> List zab -> T
 set : Nat -> List zab -> T
def zzdv (f : Operand) (args : Array Operand) (e : Env) (k : KOp) : T :=
 match f with
 | .func g => obT (evs args.toList e) fun as => .call g as k.K
 | f => obT (ev f e) fun fv => obT (evs args.toList e) fun as => .callv fv as k.K
def two' (c : Call) (e : Env) (K : zab -> zab -> T) : T := obT (two c e) fun p => K p.1 p.2
def zvj (C : Ctx) (c : Call) (e : Env) (k : KOp) : Builtin -> T
 | .append => obT (ze5 c.argTypes.toList 0) fun t => obT (ze5 c.argTypes.toList 1) fun u => two' c e fun a b => .heavy (zbm C t u a b) k.K
 | b => zmc C c e k b
def zzdt (C : Ctx) (t : Nat) (a x : Operand) (e : Env) (ae : zxt) (lo : Tr (List zab)) (k : KOp) (kl : KLo) : T :=
 match xAd ae a with
 | some p => obT (ev x e) fun v => obT (C.tys.get t) fun ty => obT (lo.get p.1) fun l => obT (zzcw l p.2 ty.size (zs9 ty v)) fun l' => .ite (zd1 zab.one (zs9 ty v)) (kl.set p.1 l') .fail
 | none => obT (ev a e) fun a => obT (ev x e) fun v => .heavy (zbz C t a v) k.Kd
def tH (C : Ctx) (la : List Nat) (dst : Option Nat) (op : Op) (e : Env) (ae : zxt) (lo : Tr (List zab)) (k : KOp) (kl : KLo) : T :=
 match op with
 | .box t x => obT (ev x e) fun v => (match laOf la dst with
  | some d => obT (C.tys.get t) fun ty => bif ty.desc.isAgg then kl.new d v.cells else .ite (zab.one v) (kl.new d [v]) .fail
  | none => .heavy (z4t v) k.K)
 | .alloc t => (match laOf la dst with
  | some d => obT (C.tys.get t) fun ty => kl.new d ty.zero
  | none => .heavy (zle C t) k.K)
 | .store t a x => zzdt C t a x e ae lo k kl
 | .buildSlice t len ps => obT (evp ps.toList e) fun ps => .heavy (za0 C t len ps) k.K
 | .makeMap _ none => .heavy zkt k.K
 | .insert t m key x => obT (ev m e) fun m => obT (ev key e) fun key => obT (ev x e) fun v => .heavy (zj4 C t m key v) k.Kd
 | .mapUpdate t m key x => obT (ev m e) fun m => obT (ev key e) fun key => obT (ev x e) fun v => .heavy (zj4 C t m key v) k.Kd
 | .makeSlice t l c => obT (ev l e) fun l => obT (ev c e) fun c => .heavy (zce C t l c) k.K
 | .convert s d x => bif Nat.beq (zlg C d) 4 then obT (ev x e) fun v => .heavy (zti C s d v) k.K else zzfu C s d x e k
 | .call c => match c.callee with
  | .value f => zzdv f c.args e k
  | .builtin b => zvj C c e k b
  | _ => .fail
 | op => tL C op e ae lo k
def rmNat (i : Nat) (l : List Nat) : List Nat := List.rec (motive := fun _ => List Nat) [] (fun j _ g => bif Nat.beq i j then g else j :: g) l
def z2n (n : Nat) (dst : Option Nat) (v : zab) (lt : Bool) (st : TSt) (κ : KT) : T :=
 match dst with
 | none => κ st
 | some d => bif Nat.blt d n then gdT (zez (zga d st.ad)) (κ ⟨st.tm.set d v, st.ad, st.lo, bif lt then d :: rmNat d st.lit else rmNat d st.lit⟩) else κ st
def zzfs (n : Nat) (dst : Option Nat) (d off : Nat) (st : TSt) (κ : KT) : T :=
 obT dst fun i => gdT (Nat.blt i n) (gdT (zez (st.tm.get i)) (κ ⟨st.tm, (i, d, off) :: st.ad, st.lo, st.lit⟩))
def zzee (d : Nat) (ad : List (Nat × Nat × Nat)) : Bool := zd1 (fun a => bif Nat.beq a.2.1 d then Nat.beq a.1 d else true) ad
def tNew (n : Nat) (d : Nat) (l : List zab) (st : TSt) (κ : KT) : T :=
 gdT (Nat.blt d n) (gdT (zez (st.tm.get d)) (gdT (zzee d st.ad) (κ ⟨st.tm, (d, d, 0) :: st.ad, st.lo.set d l, st.lit⟩)))
def fitB (C : Ctx) (t : Nat) (v : zab) : Bool :=
 match C.tys.get t with
 | some ty => (match ty.desc with
  | .bool => Nat.beq v.tag 0
  | .int k => (match v.asIntK with | some p => kEq p.1 k | none => false)
  | .string => Nat.beq v.tag 2
  | _ => true)
 | none => true
def z5d (C : Ctx) (t : Nat) (v : zab) (K : zab -> T) : T :=
 match C.tys.get t with
 | some ty => (match ty.desc with
  | .bool => .asB v fun b => K (.bool b)
  | .int k => .asI k v fun n => K (.int k n)
  | .string => .asS v fun s => K (.str s)
  | .struct _ => bif Nat.ble (zbv ty.zero) 40 then .asG ty.zero v fun X => K (.agg (znl ty.zero X 0)) else K v
  | .arr _ _ => bif Nat.ble (zbv ty.zero) 40 then .asG ty.zero v fun X => K (.agg (znl ty.zero X 0)) else K v
  | _ => K v)
 | none => K v
def zzeh (x : Operand) (lit : List Nat) : Bool :=
 match x with
 | .tmp t => lit.contains t
 | .const _ => true
 | _ => false
def zzb5 (op : Op) (e : Env) (lit : List Nat) : Bool :=
 match op with
 | .move x => zzeh x lit
 | .assign x => zzeh x lit
 | .unOp _ _ x => zzeh x lit
 | .pick c a b => bif zzeh c lit then (match ob (ev c e) zab.asBool with
  | some w => bif w then zzeh a lit else zzeh b lit
  | none => false) else false
 | _ => false
def zuc (all : List Oper) (dst : Option Nat) (l : List Oper) : Bool :=
 match dst with
 | none => false
 | some d => !zd1 (fun o => match o.guard with
  | some g => (match ob (ze5 all g.1) fun p => p.dst with | some i => !Nat.beq i d | none => true)
  | none => true) l
def zr6 (g lt : Bool) (v : zab) (K : zab -> Bool -> T) : T :=
 bif g then (bif lt then K v true else obT v.asBool fun b => .ite b (K (.bool true) true) (K (.bool false) true)) else K v lt
def kop (C : Ctx) (all : Array Oper) (n : Nat) (o : Oper) (e : Env) (st : TSt) (κ : KT) : KOp :=
 ⟨fun v => z5d C o.type v fun v => zr6 (zuc all.toList o.dst all.toList) (zzb5 o.op e st.lit) v fun v lt => z2n n o.dst v lt st κ,
  fun v => gdT (fitB C o.type v) (zr6 (zuc all.toList o.dst all.toList) (zzb5 o.op e st.lit) v fun v lt => z2n n o.dst v lt st κ),
  fun d off => gdT (!Nat.ble (zlg C o.type) 2) (zzfs n o.dst d off st κ)⟩
def klo (C : Ctx) (n : Nat) (o : Oper) (st : TSt) (κ : KT) : KLo :=
 ⟨fun d l => gdT (!Nat.ble (zlg C o.type) 2) (tNew n d l st κ),
  fun d l => gdT (fitB C o.type zbr) (z2n n o.dst zbr false ⟨st.tm, st.ad, st.lo.set d l, st.lit⟩ κ)⟩
def Env.adCut (k : Nat) (l : List (Nat × Nat × Nat)) : List (Nat × Nat × Nat) := l.filter fun a => Nat.blt a.1 k
def TSt.cut (st : TSt) : TSt := ⟨st.tm.cut, Env.adCut st.tm.k st.ad, st.lo, st.lit⟩
def tops (C : Ctx) (la : List Nat) (all : Array Oper) (n : Nat) (κ : KT) (l : List Oper) : KT :=
 List.rec (motive := fun _ => KT) κ
  (fun o _ g st => obT (zbe o.guard all st.tm) fun w => Bool.rec (motive := fun _ => T) (z2n n o.dst zbr false st g)
   (tH C la o.dst o.op (.now st.tm) (.now st.ad) st.lo (kop C all n o (.now st.tm) st g) (klo C n o st g)) w) l
def z4a (st old : TSt) (olds : List Nat) (op : Op) : Env := .mixed st.tm old.tm olds (zb4 op)
def zzgp (st old : TSt) (olds : List Nat) (op : Op) : zxt := .mixed st.ad old.ad olds (zb4 op)
def zi9 (C : Ctx) (all : Array Oper) (n : Nat) (old : TSt) (olds : List (Nat × List Nat)) (κ : KT) (l : List Nat) : KT :=
 List.rec (motive := fun _ => KT) κ
  (fun i _ g st => obT (ze5 all.toList i) fun o => obT (zbe o.guard all st.tm) fun w => Bool.rec (motive := fun _ => T) (z2n n o.dst zbr false st g)
   (tL C o.op (z4a st old (zc0 i olds) o.op) (zzgp st old (zc0 i olds) o.op) st.lo (kop C all n o (z4a st old (zc0 i olds) o.op) st g)) w) l
def zma (C : Ctx) (all : Array Oper) (old : TSt) (olds : List (Nat × List Nat)) (st : TSt) (k : T) (l : List Nat) : T :=
 List.rec (motive := fun _ => T) k
  (fun i _ g => obT (ze5 all.toList i) fun o => obT o.dst fun d => obT (zbe o.guard all st.tm) fun w => Bool.rec (motive := fun _ => T) g
   (obT (st.tm.get d) fun u => gdT (fitB C o.type u) (tL C o.op (z4a st old (zc0 i olds) o.op) (zzgp st old (zc0 i olds) o.op) st.lo ⟨fun v => .ite (same 10 v u) g .fail, fun v => .ite (same 10 v u) g .fail, fun _ _ => .fail⟩)) w) l
def zpq (C : Ctx) (all : Array Oper) (n : Nat) (old : TSt) (olds : List (Nat × List Nat)) (κ : KT) (l : List zd3) : KT :=
 List.rec (motive := fun _ => KT) κ
  (fun s _ g st => obT (ze5 all.toList s.heavy) fun o => obT (zbe o.guard all st.tm) fun w =>
   (fun cont : KT => Bool.rec (motive := fun _ => T) (z2n n o.dst zbr false st cont)
    (tH C [] o.dst o.op (z4a st old (zc0 s.heavy olds) o.op) (zzgp st old (zc0 s.heavy olds) o.op) st.lo (kop C all n o (z4a st old (zc0 s.heavy olds) o.op) st cont) (klo C n o st cont)) w)
   (fun st' => zma C all old olds st' (zi9 C all n old olds g s.lights st') s.again)) l
def z43 (C : Ctx) (la : List Nat) (fn n : Nat) (κ : KT) (id : Nat) (all : Array Oper) (draw : Bool) : KT :=
 Bool.rec (motive := fun _ => KT) (fun st => tops C la all n κ all.toList st.cut)
  (fun st => obT (ob (C.plans.get fn) fun t => t.get id) fun p => gdT (zjt all p) (zi9 C all n st.cut p.olds (zpq C all n st.cut p.olds κ p.stages) p.first st.cut)) draw
def zr2 (st : TSt) (ll : List (Nat × Nat)) : Option (List zab) :=
 List.rec (motive := fun _ => Option (List zab)) (some []) (fun p _ g => ob (zga p.1 st.ad) fun a => zan (Nat.beq a.1 p.1 && Nat.beq a.2 0) (ob (st.lo.get p.1) fun l => zan (Nat.beq (zbv l) p.2) (ob g fun r => some (ziv l r)))) ll
def zr1 (p : PI) (st : TSt) : Option (List zab) := ob (zgd (fun i => st.tm.get i) p.pl) fun a => ob (zr2 st p.ll) fun b => some (ziv a b)
def zzah (ll : List (Nat × Nat)) : List zab -> Tr (List zab) :=
 List.rec (motive := fun _ => List zab -> Tr (List zab)) (fun _ => .leaf) (fun p _ g vals => (g (zjw vals p.2)).set p.1 (zqk vals p.2)) ll
def zzd2 (pl : List Nat) : List zab -> Tr zab :=
 List.rec (motive := fun _ => List zab -> Tr zab) (fun _ => .leaf) (fun i _ g vals => List.rec (motive := fun _ => Tr zab) .leaf (fun v vals _ => (g vals).set i v) vals) pl
def stAd (ll : List (Nat × Nat)) : List (Nat × Nat × Nat) := List.rec (motive := fun _ => List (Nat × Nat × Nat)) [] (fun p _ g => (p.1, p.1, 0) :: g) ll
def stAt (k : Nat) (p : PI) (vals : List zab) : TSt := ⟨⟨k, zzd2 p.pl vals, []⟩, stAd p.ll, zzah p.ll (zjw vals (zbv p.pl)), []⟩
def z0a (C : Ctx) (la : List Nat) (fn n : Nat) (c : zdd) : KtT -> KT :=
 zdd.rec (motive := fun _ => KtT -> KT)
  (fun κ st => κ.norm st)
  (fun id all draw κ => z43 C la fn n κ.norm id all draw)
  (fun _ _ ga gb κ => ga ⟨gb κ, κ.exit, κ.ret⟩)
  (fun c _ _ gx gy κ st => obT (ob (ev c (.now st.tm)) zab.asBool) fun b => bif zzeh c st.lit then Bool.rec (motive := fun _ => T) (gy κ st) (gx κ st) b else .ite b (gx κ st) (gy κ st))
  (fun id _ g κ => g ⟨κ.norm, fun i st => Bool.rec (motive := fun _ => T) (κ.exit i st) (κ.norm st) (Nat.beq id i), κ.ret⟩)
  (fun p _ _ _ st => obT (zr1 p st) fun vals => .jump p.id vals)
  (fun id κ st => κ.exit id st)
  (fun κ st => κ.ret st)
  (fun p _ _ _ st => obT (zr1 p st) fun vals => .jump p.id vals) c
structure PtT where
 p : PI
 tree : List zab -> T
def z3g (p : PI) : KT := fun st => obT (zr1 p st) fun vals => .jump p.id vals
def zj9 (C : Ctx) (la : List Nat) (fn n k : Nat) (c : zdd) : KtT -> List PtT :=
 zdd.rec (motive := fun _ => KtT -> List PtT)
  (fun _ => [])
  (fun _ _ _ _ => [])
  (fun _ b ga gb κ => ziv (ga ⟨z0a C la fn n b κ, κ.exit, κ.ret⟩) (gb κ))
  (fun _ _ _ gx gy κ => ziv (gx κ) (gy κ))
  (fun id _ g κ => g ⟨κ.norm, fun i st => Bool.rec (motive := fun _ => T) (κ.exit i st) (κ.norm st) (Nat.beq id i), κ.ret⟩)
  (fun p c g κ => ⟨p, fun vals => z0a C la fn n c ⟨z3g p, κ.exit, κ.ret⟩ (stAt k p vals)⟩ :: g ⟨z3g p, κ.exit, κ.ret⟩)
  (fun _ _ => [])
  (fun _ => [])
  (fun p c g κ => ⟨p, fun vals => z0a C la fn n c κ (stAt k p vals)⟩ :: g κ) c
def resT (C : Ctx) (st : TSt) (l : List ResultVar) : (List zab -> T) -> T :=
 List.rec (motive := fun _ => (List zab -> T) -> T) (fun K => K [])
  (fun r _ g K => match r with
   | .tmp t => obT (st.tm.get t) fun v => g fun l => K (v :: l)
   | .cell a t => match zga a st.ad with
    | some p => obT (st.lo.get p.1) fun l => obT (C.tys.get t) fun ty => gdT (Nat.ble (p.2 + ty.size) (zbv l)) (obT (zoz C t l p.2) fun v => g fun l => K (v :: l))
    | none => obT (st.tm.get a) fun a => .light (fun m => zap C t ⟨0, m⟩ a) fun v => g fun l => K (v :: l)) l
def endT (C : Ctx) (fn : Func) : KT := fun st => resT C st fn.results.toList fun l => .ret (zls l)
def topT (C : Ctx) (fn : Func) : KtT := ⟨endT C fn, fun _ _ => .fail, endT C fn⟩
structure zcr where
 code : zdd
 la : List Nat
def entT (C : Ctx) (fn : Func) (k : Nat) (f : Nat) (A : zcr) (args : List zab) : T := z0a C A.la f fn.ntmps A.code (topT C fn) ⟨⟨k, Tr.ofList args, []⟩, [], .leaf, []⟩
def ptsT (C : Ctx) (fn : Func) (k : Nat) (f : Nat) (A : zcr) : List PtT := zj9 C A.la f fn.ntmps k A.code (topT C fn)
def z61 (l : List PtT) (i : Nat) (vals : List zab) : List T := List.rec (motive := fun _ => List T) [] (fun p _ g => bif Nat.beq p.p.id i then p.tree vals :: g else g) l
end Go.Am
namespace Go.Am
open Go Go.RowKit
def zee {α : Type} (x : Option α) (P : α -> Prop) : Prop :=
 match x with
 | some a => P a
 | none => False
theorem zgv {α : Type} {x : Option α} {P : α -> Prop} : zee x P ↔ ∃ a, x = some a /\ P a := by
 cases x with
 | none => simp [zee]
 | some a => simp [zee]
@[simp] theorem zaa {α : Type} {a : α} {P : α -> Prop} : zee (some a) P = P a := rfl
@[simp] theorem optP_none {α : Type} {P : α -> Prop} : zee (none : Option α) P = False := rfl
abbrev zav := zab -> Tr zam -> Prop
abbrev zhy := Nat -> List zab -> Tr zam -> zav -> Prop
def zn3 (f : zab) (args : List zab) : Option (Nat × List zab) := ob f.asFunc fun p => match p.1 with
 | .func g => some (g, ziv (ziv p.2.1 args) p.2.2)
 | .yld _ => none
def zzci (k : IntKind) (v : zab) : Option Int := ob v.asIntK fun p => zan (kEq p.1 k) (some p.2)
def zrd (zs : List zab) (v : zab) : Option zzae := ob v.asAgg fun l => zan (zmx zs l) (some (cellsOf l))
def wpT (base : Nat) (W : zhy) (J : zhy) : T -> Tr zam -> zav -> Prop
 | .ret v, t, Q => Q v t
 | .fail, _, _ => False
 | .ite b x y, t, Q => if b = true then wpT base W J x t Q else wpT base W J y t Q
 | .opt x K, t, Q => zee x fun v => wpT base W J (K v) t Q
 | .light x K, t, Q => zee (x t) fun v => wpT base W J (K v) t Q
 | .heavy x K, t, Q => ∀ b, t.get b = none -> base <= b -> zee (x ⟨b, t⟩) fun p => wpT base W J (K p.1) p.2.t Q
 | .call f args K, t, Q => W f args t fun v t' => wpT base W J (K v) t' Q
 | .callv f args K, t, Q => zee (zn3 f args) fun p => W p.1 p.2 t fun v t' => wpT base W J (K v) t' Q
 | .asI k v K, t, Q => zee (zzci k v) fun n => wpT base W J (K n) t Q
 | .asB v K, t, Q => zee v.asBool fun n => wpT base W J (K n) t Q
 | .asS v K, t, Q => zee v.asStr fun n => wpT base W J (K n) t Q
 | .asG zs v K, t, Q => zee (zrd zs v) fun X => wpT base W J (K X) t Q
 | .jump i vals, t, Q => J i vals t Q
abbrev Xt := Nat -> Option zam
def XLe (X Y : Xt) : Prop := ∀ b y, X b = some y -> Y b = some y
theorem XLe.refl (X : Xt) : XLe X X := fun _ _ h => h
theorem XLe.trans {X Y Z : Xt} (h : XLe X Y) (k : XLe Y Z) : XLe X Z := fun b y e => k b y (h b y e)
structure Ov (base : Nat) (t : Tr zam) (X : Xt) (H : zai) : Prop where
 base : base <= H.next
 same : ∀ b, X b = none -> H.t.get b = t.get b
 ext : ∀ b y, X b = some y -> H.t.get b = some y /\ t.get b = none /\ b < H.next
 lt : ∀ b y, t.get b = some y -> b < H.next
def HLe (H H' : zai) : Prop := ∀ b y, H.t.get b = some y -> H'.t.get b = some y
def zo2 (e e' : Env) : Prop := ∀ i v, zzag i e = some v -> zzag i e' = some v
section
variable {base : Nat} {t : Tr zam} {X : Xt} {H HA : zai} {e e' : Env} {C : Ctx} {v : zab}
theorem Ov.notX (h : Ov base t X HA) {b : Nat} {y : zam} (hb : t.get b = some y) : X b = none := by
 cases hx : X b with
 | none => rfl
 | some z => have := (h.ext b z hx).2.1; rw [hb] at this; cases this
theorem Ov.up (h : Ov base t X HA) {b : Nat} {y : zam} (hb : t.get b = some y) : HA.t.get b = some y := by rw [h.same b (h.notX hb)]; exact hb
theorem Ov.le (h : Ov base t X HA) {n : Nat} : HLe ⟨n, t⟩ HA := fun _ _ hb => h.up hb
theorem Ov.nextX (h : Ov base t X HA) : X HA.next = none := by
 cases hx : X HA.next with
 | none => rfl
 | some z => exact absurd (h.ext _ z hx).2.2 (Nat.lt_irrefl _)
theorem Ov.nextT (h : Ov base t X HA) : t.get HA.next = none := by
 cases hx : t.get HA.next with
 | none => rfl
 | some z => exact absurd (h.lt _ z hx) (Nat.lt_irrefl _)
theorem zci (h : HLe H HA) {b : Nat} {p : Tr zab × Nat × Option Nat} (hb : za1 H b = some p) : za1 HA b = some p := by
 unfold za1 at hb ⊢; rw [zad] at hb ⊢; obtain ⟨y, h1, h2⟩ := hb; exact ⟨y, h _ _ h1, h2⟩
theorem zft (h : HLe H HA) {b : Nat} {p : List (zab × zab)} (hb : zgm H b = some p) : zgm HA b = some p := by
 unfold zgm at hb ⊢; rw [zad] at hb ⊢; obtain ⟨y, h1, h2⟩ := hb; exact ⟨y, h _ _ h1, h2⟩
theorem za4 (h : zo2 e e') {x : Operand} (hx : ev x e = some v) : ev x e' = some v := by
 cases x with
 | tmp i => exact h i v hx
 | const c => exact hx
 | global g => exact hx
 | func f => exact hx
theorem zsq {α β : Type} {f g : α -> Option β} : ∀ (l : List α) {r : List β}, (∀ a b, f a = some b -> g a = some b) -> zgd f l = some r -> zgd g l = some r := by
 intro l; induction l with
 | nil => intro r _ h; exact h
 | cons a l ih =>
  intro r hfg h; rw [zdf, zad] at h ⊢
  obtain ⟨b, h1, h⟩ := h
  refine ⟨b, hfg _ _ h1, ?_⟩
  rw [zad] at h ⊢
  obtain ⟨s, h2, h⟩ := h
  exact ⟨s, ih hfg h2, h⟩
theorem zup (h : zo2 e e') {l : List Operand} {vs : List zab} (hx : evs l e = some vs) : evs l e' = some vs := zsq l (fun _ _ k => za4 h k) hx
theorem z1u (h : zo2 e e') {x : Option Operand} {r : Option zab} (hx : evo x e = some r) : evo x e' = some r := by
 cases x with
 | none => exact hx
 | some x =>
  have hx : ob (ev x e) (fun v => some (some v)) = some r := hx
  show ob (ev x e') (fun v => some (some v)) = some r
  rw [zad] at hx ⊢
  obtain ⟨a, h1, h2⟩ := hx
  exact ⟨a, za4 h h1, h2⟩
theorem zuq (h : zo2 e e') {l : List (Nat × Operand)} {vs : List (Nat × zab)} (hx : evp l e = some vs) : evp l e' = some vs :=
 zsq l (fun a b k => by rw [zad] at k ⊢; obtain ⟨u, h1, h2⟩ := k; exact ⟨u, za4 h h1, h2⟩) hx
theorem ztm (h : zo2 e e') {c : Call} {p : zab × zab} (hx : two c e = some p) : two c e' = some p := by
 unfold two at hx ⊢
 split at hx
 ·rw [zad] at hx ⊢
  obtain ⟨a, h1, hx⟩ := hx
  refine ⟨a, za4 h h1, ?_⟩
  rw [zad] at hx ⊢
  obtain ⟨b, h2, hx⟩ := hx
  exact ⟨b, za4 h h2, hx⟩
 ·cases hx
theorem zd0 (h : HLe H HA) {ty : Nat} {a : zab} (hx : zap C ty H a = some v) : zap C ty HA a = some v := by
 unfold zap at hx ⊢
 simp only [zad] at hx ⊢
 obtain ⟨p, h1, y, h2, c, h3, h4⟩ := hx
 exact ⟨p, h1, y, h2, c, zci h h3, h4⟩
theorem znz (h : HLe H HA) {s d : ATy} {a : zab} (hx : zn0 C s d a H = some v) : zn0 C s d a HA = some v := by
 unfold zn0 at hx ⊢
 split at hx
 ·rename_i k hk; exact hx
 ·rename_i hk
  rw [zae] at hx ⊢
  refine ⟨hx.1, ?_⟩
  have hx := hx.2
  rw [zar] at hx ⊢
  split at hx
  ·rename_i e; rw [if_pos e]; exact hx
  ·rename_i e
   rw [if_neg e]; simp only [zad, zae] at hx ⊢
   obtain ⟨a1, h1, b1, h2, k1, h3, h4, h5⟩ := hx
   refine ⟨a1, h1, b1, h2, k1, h3, h4, ?_⟩
   unfold zi3 at h5 ⊢
   split at h5
   ·simp only [zad] at h5 ⊢
    obtain ⟨c, g1, g2⟩ := h5
    exact ⟨c, zci h g1, g2⟩
   ·exact h5
theorem z2c (h : HLe H HA) {s d : Nat} {a : zab} (hx : zl7 C s d H a = some v) : zl7 C s d HA a = some v := by
 unfold zl7 at hx ⊢
 simp only [zad] at hx ⊢
 obtain ⟨a1, h1, b1, h2, h3⟩ := hx
 exact ⟨a1, h1, b1, h2, znz h h3⟩
theorem zie (h : HLe H HA) {b size cap l : Nat} {arr : Bool} (hx : zcv H b size cap l arr = true) : zcv HA b size cap l arr = true := by
 unfold zcv at hx ⊢
 cases hc : za1 H b with
 | none => rw [hc] at hx; cases hx
 | some c => rw [hc] at hx; rw [zci h hc]; exact hx
theorem zlv (h : HLe H HA) {ty : ATy} {a : zab} {l r : Option zab} (hx : zh2 C H ty a l r = some v) : zh2 C HA ty a l r = some v := by
 have row : ∀ {arr e b off len cap}, zd5 C H arr e b off len cap l r = some v -> zd5 C HA arr e b off len cap l r = some v := by
  intro arr e b off len cap hx; unfold zd5 at hx ⊢
  simp only [zad, zae, yac] at hx ⊢
  obtain ⟨a1, h1, b1, h2, ⟨h3, h4⟩, h5⟩ := hx
  exact ⟨a1, h1, b1, h2, ⟨h3, zie h h4⟩, h5⟩
 unfold zh2 at hx ⊢
 split at hx
 ·exact hx
 ·split at hx
  ·rw [zad] at hx ⊢; obtain ⟨a1, h1, h2⟩ := hx; exact ⟨a1, h1, row h2⟩
  ·split at hx
   ·rw [zad] at hx ⊢; obtain ⟨a1, h1, h2⟩ := hx; exact ⟨a1, h1, row h2⟩
   ·exact hx
theorem zx1 (h : HLe H HA) {ty : Nat} {a : zab} {l r : Option zab} (hx : zen C ty H a l r = some v) : zen C ty HA a l r = some v := by
 unfold zen at hx ⊢
 rw [zad] at hx ⊢
 obtain ⟨a1, h1, h2⟩ := hx
 exact ⟨a1, h1, zlv h h2⟩
theorem zno (h : HLe H HA) {m : zab} {l : List (zab × zab)} (hx : zrw H m = some l) : zrw HA m = some l := by
 unfold zrw at hx ⊢
 split at hx
 ·exact zft h hx
 ·exact hx
theorem zvb (h : HLe H HA) {ty : Nat} {m k : zab} {ok : Bool} (hx : zid C ty H m k ok = some v) : zid C ty HA m k ok = some v := by
 unfold zid at hx ⊢
 simp only [zad, zae] at hx ⊢
 obtain ⟨a1, h1, b1, h2, c1, h3, h4, d1, h5, es, h6, h7⟩ := hx
 exact ⟨a1, h1, b1, h2, c1, h3, h4, d1, h5, es, zno h h6, h7⟩
theorem zqo (h : HLe H HA) {ty : ATy} {a : zab} {n : Nat} (hx : z7w H ty a = some n) : z7w HA ty a = some n := by
 unfold z7w at hx ⊢
 split at hx
 ·exact hx
 ·split at hx
  ·exact hx
  ·split at hx
   ·exact hx
   ·split at hx
    ·rw [zae, zad] at hx ⊢
     obtain ⟨h1, l, h2, h3⟩ := hx
     exact ⟨h1, l, zft h h2, h3⟩
    ·exact hx
theorem z4r (h : HLe H HA) {ty : Nat} {a : zab} (hx : z39 C ty H a = some v) : z39 C ty HA a = some v := by
 unfold z39 at hx ⊢
 simp only [zad] at hx ⊢
 obtain ⟨a1, h1, n, h2, h3⟩ := hx
 exact ⟨a1, h1, n, zqo h h2, h3⟩
theorem z77 {ty : Nat} {a : Operand} : znr ty a C e H = ob (ev a e) fun v => zap C ty H v := rfl
theorem z8a {s d : Nat} {x : Operand} {u : zab} (hx : ev x e = some u) : zk8 s d x C e H = zl7 C s d H u := by unfold zk8 zl7; rw [hx]; rfl
theorem zzb8 {ty : Nat} {x : Operand} {lo hi : Option Operand} {a : zab} {l r : Option zab} (h1 : ev x e = some a) (h2 : evo lo e = some l) (h3 : evo hi e = some r) : zmr ty x lo hi C e H = zen C ty H a l r := by unfold zmr zen; rw [h1, zac, h2, zac, h3, zac]
theorem zok {s f : Nat} {x : Operand} {u : zab} (hx : ev x e = some u) : zdh s x f C e H = zaj C s f u := by
 unfold zdh zaj zf5; rw [hx]
 cases C.tys.get s with
 | none => rfl
 | some ty =>
  simp only [zac]
  cases ty.desc.asStruct with
  | none => rfl
  | some fs =>
   simp only [zac]
   cases ze5 fs f with
   | none => rfl
   | some fd => simp only [zac]; cases hb : (!Nat.beq fd.2.2 0) <;> rfl
theorem zoi {ty : Nat} {x i : Operand} {u w : zab} (hx : ev x e = some u) (hi : ev i e = some w) : zdg ty x i C e H = zaf C ty u w := by unfold zdg zaf; rw [hx, hi]; rfl
theorem zzca {ty : Nat} {x i : Operand} {u w : zab} (hx : ev x e = some u) (hi : ev i e = some w) : zkg ty x i C e H = zjq C ty u w := by unfold zkg zjq; rw [hx, hi]; rfl
theorem zzej {x : Operand} {u : zab} (hx : ev x e = some u) : zzb9 x C e H = zrn u := by unfold zzb9 zrn; rw [hx]; rfl
theorem z3e {x : Operand} {i : Nat} {u : zab} (hx : ev x e = some u) : zfd x i C e H = zas i u := by unfold zfd zas; rw [hx]; rfl
theorem lBin_v {op : BinOp} {ty : Nat} {x y : Operand} {u w : zab} (hx : ev x e = some u) (hy : ev y e = some w) : zwl op ty x y C e H = (zxg op).f C ty x y u w := by unfold zwl; rw [hx, hy]; rfl
theorem z8c {x : Operand} {a : Nat} {ok : Bool} {u : zab} (hx : ev x e = some u) : zhk x a ok C e H = zx3 C a ok u := by
 unfold zhk zx3; rw [hx]; rfl
theorem z76 {ty : Nat} {x i : Operand} {ok : Bool} {m k : zab} (hx : ev x e = some m) (hi : ev i e = some k) : zhj ty x i ok C e H = zid C ty H m k ok := by unfold zhj zid; rw [hx, hi]; rfl
theorem lLen_v {c : Call} {ty : Nat} {x : Operand} {u : zab} (h1 : ze5 c.argTypes.toList 0 = some ty) (h2 : ze5 c.args.toList 0 = some x) (hx : ev x e = some u) : z1f c C e H = z39 C ty H u := by unfold z1f z39; rw [h1, zac, h2, zac, hx]; rfl
theorem zzc3 (he : zo2 e e') {op : Op} (hp : zt3 op = true \/ (∃ s d x, op = .convert s d x /\ (zlg C d = 1 \/ zlg C s = 2)) \/ (∃ c, op = .call c /\ (c.callee = .builtin .max \/ c.callee = .builtin .min))) {H' : zai} (h : (zb5 op).f C e H = some v) : (zb5 op).f C e' H' = some v := by
 rcases hp with hp | hp | hp
 ·cases op <;> simp only [zt3] at hp <;> try (cases hp; done)
  case move x => exact za4 he h
  case assign x => exact za4 he h
  case pick c a b =>
   have h : ob (ev c e) (fun c => ob c.asBool fun c => bif c then ev a e else ev b e) = some v := h
   show ob (ev c e') (fun c => ob c.asBool fun c => bif c then ev a e' else ev b e') = some v
   simp only [zad] at h ⊢
   obtain ⟨u, h1, w, h2, h3⟩ := h
   refine ⟨u, za4 he h1, w, h2, ?_⟩
   cases w with
   | true => exact za4 he h3
   | false => exact za4 he h3
  case nilCheck x =>
   have h : ob (ev x e) (fun u => zan (Nat.beq u.tag 4 || Nat.beq u.tag 9) (some u)) = some v := h
   show ob (ev x e') (fun u => zan (Nat.beq u.tag 4 || Nat.beq u.tag 9) (some u)) = some v
   rw [zad] at h ⊢
   obtain ⟨u, h1, h2⟩ := h
   exact ⟨u, za4 he h1, h2⟩
  case binOp op t x y u =>
   have h : zwl op t x y C e H = some v := h
   show zwl op t x y C e' H' = some v
   unfold zwl at h ⊢
   simp only [zad] at h ⊢
   obtain ⟨a, h1, b, h2, h3⟩ := h
   exact ⟨a, za4 he h1, b, za4 he h2, h3⟩
  case unOp op t x =>
   have h : lUn op x C e H = some v := h
   show lUn op x C e' H' = some v
   unfold lUn at h ⊢
   rw [zad] at h ⊢
   obtain ⟨a, h1, h2⟩ := h
   exact ⟨a, za4 he h1, h2⟩
  case makeInterface t x =>
   have h : zoj t x C e H = some v := h
   show zoj t x C e' H' = some v
   unfold zoj at h ⊢
   simp only [zad, zae] at h ⊢
   obtain ⟨a, h1, h2, b, h3, h4⟩ := h
   exact ⟨a, h1, h2, b, za4 he h3, h4⟩
  case makeFunc fn a b =>
   have h : (zkh fn a b).f C e H = some v := h
   show (zkh fn a b).f C e' H' = some v
   unfold zkh at h ⊢
   split at h
   ·show z79 _ a b C e' H' = some v
    unfold z79 at h ⊢
    simp only [zad] at h ⊢
    obtain ⟨x, h1, y, h2, h3⟩ := h
    exact ⟨x, zup he h1, y, zup he h2, h3⟩
   ·cases h
  case fieldAddr s x f =>
   have h : zdh s x f C e H = some v := h
   show zdh s x f C e' H' = some v
   unfold zdh at h ⊢
   simp only [zad, zae] at h ⊢
   obtain ⟨a, h1, b, h2, c, h3, h4, u, h5, h6⟩ := h
   exact ⟨a, h1, b, h2, c, h3, h4, u, za4 he h5, h6⟩
  case field t x f =>
   have h : zol t x f C e H = some v := h
   show zol t x f C e' H' = some v
   unfold zol at h ⊢
   simp only [zad] at h ⊢
   obtain ⟨a, h1, b, h2, c, h3, u, h5, h6⟩ := h
   exact ⟨a, h1, b, h2, c, h3, u, za4 he h5, h6⟩
  case indexAddr t x i =>
   have h : zdg t x i C e H = some v := h
   show zdg t x i C e' H' = some v
   unfold zdg at h ⊢
   simp only [zad] at h ⊢
   obtain ⟨a, h1, b, h2, c, h3, h4⟩ := h
   exact ⟨a, h1, b, za4 he h2, c, za4 he h3, h4⟩
  case index t x i =>
   have h : zkg t x i C e H = some v := h
   show zkg t x i C e' H' = some v
   unfold zkg at h ⊢
   simp only [zad] at h ⊢
   obtain ⟨a, h1, b, h2, c, h3, h4⟩ := h
   exact ⟨a, h1, b, za4 he h2, c, za4 he h3, h4⟩
  case extract t i =>
   have h : zfd t i C e H = some v := h
   show zfd t i C e' H' = some v
   unfold zfd at h ⊢
   rw [zad] at h ⊢
   obtain ⟨a, h1, h2⟩ := h
   exact ⟨a, za4 he h1, h2⟩
  case build t ps =>
   have h : zll t ps C e H = some v := h
   show zll t ps C e' H' = some v
   unfold zll at h ⊢
   rw [zad] at h ⊢
   obtain ⟨a, h1, h⟩ := h
   refine ⟨a, h1, ?_⟩
   rw [zad] at h ⊢
   obtain ⟨b, h2, h⟩ := h
   exact ⟨b, zuq he h2, h⟩
  case typeAssert x t u ok =>
   have h : zhk x u ok C e H = some v := h
   show zhk x u ok C e' H' = some v
   unfold zhk at h ⊢
   rw [zad] at h ⊢
   obtain ⟨a, h1, h⟩ := h
   refine ⟨a, h1, ?_⟩
   rw [zae] at h ⊢
   refine ⟨h.1, ?_⟩
   have h := h.2
   rw [zad] at h ⊢
   obtain ⟨b, h2, h⟩ := h
   exact ⟨b, za4 he h2, h⟩
 ·obtain ⟨s, d, x, rfl, hp⟩ := hp
  have h : zk8 s d x C e H = some v := h
  show zk8 s d x C e' H' = some v
  unfold zk8 at h ⊢
  simp only [zad] at h ⊢
  obtain ⟨u, h1, sy, h2, dy, h3, h4⟩ := h
  refine ⟨u, za4 he h1, sy, h2, dy, h3, ?_⟩
  unfold zn0 at h4 ⊢
  split at h4
  ·exact h4
  ·rename_i hd
   rw [zae] at h4 ⊢
   refine ⟨h4.1, ?_⟩
   have h4 := h4.2
   rw [zar] at h4 ⊢
   split at h4
   ·rename_i e; rw [if_pos e]; exact h4
   ·rename_i e
    exfalso
    rcases hp with hp | hp
    ·unfold zlg at hp
     rw [h3] at hp; have hp : dy.desc.tag = 1 := hp
     cases hx : dy.desc <;> rw [hx] at hp hd <;> first
      | (cases hp; done)
      | (cases hd; done)
    ·unfold zlg at hp
     rw [h2] at hp; have hp : sy.desc.tag = 2 := hp
     simp only [zad] at h4; obtain ⟨el, h5, _⟩ := h4
     cases hx : sy.desc <;> rw [hx] at hp h5 <;> first
      | (cases hp; done)
      | (cases h5; done)
 ·obtain ⟨c, rfl, hc⟩ := hp
  rcases hc with hc | hc
  ·have h : (zge c c.callee).f C e H = some v := h
   show (zge c c.callee).f C e' H' = some v
   rw [hc] at h ⊢
   have h : z75 c C e H = some v := h
   show z75 c C e' H' = some v
   unfold z75 at h ⊢
   rw [zad] at h ⊢
   obtain ⟨p, h1, h2⟩ := h
   exact ⟨p, ztm he h1, h2⟩
  ·have h : (zge c c.callee).f C e H = some v := h
   show (zge c c.callee).f C e' H' = some v
   rw [hc] at h ⊢
   have h : z73 c C e H = some v := h
   show z73 c C e' H' = some v
   unfold z73 at h ⊢
   rw [zad] at h ⊢
   obtain ⟨p, h1, h2⟩ := h
   exact ⟨p, ztm he h1, h2⟩
end
end Go.Am
namespace Go.Am
open Go Go.RowKit
section
variable {base : Nat} {t : Tr zam} {X : Xt} {H HA : zai} {e e' : Env} {C : Ctx} {v : zab}
theorem Ov.newBlk (h : Ov base t X HA) (y : zam) : Ov base (t.set HA.next y) X (newBlk HA y) := by
 refine ⟨Nat.le_succ_of_le h.base, fun b hb => ?_, fun b z hb => ?_, fun b z hb => ?_⟩
 ·show (HA.t.set HA.next y).get b = _
  rw [Tr.get_set, Tr.get_set]; split
  ·rfl
  ·exact h.same b hb
 ·obtain ⟨h1, h2, h3⟩ := h.ext b z hb
  have hne : b ≠ HA.next := Nat.ne_of_lt h3
  refine ⟨?_, ?_, Nat.lt_succ_of_lt h3⟩
  ·show (HA.t.set HA.next y).get b = _
   rw [Tr.get_set, if_neg hne]; exact h1
  ·rw [Tr.get_set, if_neg hne]; exact h2
 ·rw [Tr.get_set] at hb
  show b < HA.next + 1
  split at hb
  ·rename_i e; rw [e]; exact Nat.lt_succ_self _
  ·exact Nat.lt_succ_of_lt (h.lt _ _ hb)
theorem Ov.setBlk (h : Ov base t X HA) {b : Nat} {y : zam} (hb : t.get b = some y) (z : zam) : Ov base (t.set b z) X (setBlk HA b z) := by
 refine ⟨h.base, fun c hc => ?_, fun c u hc => ?_, fun c u hc => ?_⟩
 ·show (HA.t.set b z).get c = _
  rw [Tr.get_set, Tr.get_set]; split
  ·rfl
  ·exact h.same c hc
 ·obtain ⟨h1, h2, h3⟩ := h.ext c u hc
  have hne : c ≠ b := fun e => by rw [e, hb] at h2; cases h2
  refine ⟨?_, ?_, h3⟩
  ·show (HA.t.set b z).get c = _
   rw [Tr.get_set, if_neg hne]; exact h1
  ·rw [Tr.get_set, if_neg hne]; exact h2
 ·rw [Tr.get_set] at hc
  show c < HA.next
  split at hc
  ·rename_i e; rw [e]; exact h.lt _ _ hb
  ·exact h.lt _ _ hc
theorem Ov.delBlk (h : Ov base t X HA) {b : Nat} {y : zam} (hb : t.get b = some y) : Ov base (t.del b) X ⟨HA.next, HA.t.del b⟩ := by
 refine ⟨h.base, fun c hc => ?_, fun c u hc => ?_, fun c u hc => ?_⟩
 ·show (HA.t.del b).get c = _
  rw [Tr.get_del, Tr.get_del]; split
  ·rfl
  ·exact h.same c hc
 ·obtain ⟨h1, h2, h3⟩ := h.ext c u hc
  have hne : c ≠ b := fun e => by rw [e, hb] at h2; cases h2
  refine ⟨?_, ?_, h3⟩
  ·show (HA.t.del b).get c = _
   rw [Tr.get_del, if_neg hne]; exact h1
  ·rw [Tr.get_del, if_neg hne]; exact h2
 ·rw [Tr.get_del] at hc
  show c < HA.next
  split at hc
  ·cases hc
  ·exact h.lt _ _ hc
def zzaj (base : Nat) (x : zai -> Option (zab × zai)) : Prop := ∀ t X HA v H', Ov base t X HA -> x ⟨HA.next, t⟩ = some (v, H') -> ∃ HA', x HA = some (v, HA') /\ Ov base H'.t X HA'
theorem zqh (l : List zab) (lo : Option Nat) (h : Ov base t X HA) : Ov base (za7 ⟨HA.next, t⟩ l lo).t X (za7 HA l lo) := h.newBlk _
theorem z4u {ty : Nat} : zzaj base (zle C ty) := by
 intro t X HA v H' ho h; unfold zle at h ⊢
 rw [zad] at h; obtain ⟨y, h1, h2⟩ := h
 cases h2; rw [h1]; exact ⟨_, rfl, zqh _ _ ho⟩
theorem zzfp {u : zab} : zzaj base (z4t u) := by
 intro t X HA v H' ho h
 cases h; exact ⟨_, rfl, zqh _ _ ho⟩
theorem zrq {ty n : Nat} {ps : List (Nat × zab)} : zzaj base (za0 C ty n ps) := by
 intro t X HA v H' ho h; unfold za0 at h ⊢
 simp only [zad, zae] at h; obtain ⟨a, h1, b, h2, c, h3, h4, l, h5, h6⟩ := h
 cases h6; refine ⟨za7 HA l none, ?_, zqh _ _ ho⟩
 simp only [zad, zae]; exact ⟨a, h1, b, h2, c, h3, h4, l, h5, rfl⟩
theorem zvl (ho : Ov base t X HA) {b off : Nat} {l : List zab} {H' : zai} (h : zh1 C ⟨HA.next, t⟩ b off l = some H') : ∃ HA', zh1 C HA b off l = some HA' /\ Ov base H'.t X HA' := by
 unfold zh1 at h ⊢
 simp only [zad, zae] at h; obtain ⟨h1, c, h2, h3, h4⟩ := h
 cases h4; have h2' := h2
 unfold za1 at h2'; rw [zad] at h2'
 obtain ⟨y, h5, _⟩ := h2'
 refine ⟨_, ?_, ho.setBlk h5 _⟩
 simp only [zad, zae]; exact ⟨h1, c, zci ho.le h2, h3, rfl⟩
theorem z4q {ty : Nat} {a u : zab} : zzaj base (zbz C ty a u) := by
 intro t X HA v H' ho h; unfold zbz at h ⊢
 simp only [zad, zae] at h; obtain ⟨y, h1, p, h2, h3, H1, h4, h5⟩ := h
 cases h5; obtain ⟨HA', h6, h7⟩ := zvl ho h4
 refine ⟨HA', ?_, h7⟩
 simp only [zad, zae]; exact ⟨y, h1, p, h2, h3, HA', h6, rfl⟩
theorem zx2 : zzaj base zkt := by
 intro t X HA v H' ho h
 cases h; exact ⟨_, rfl, ho.newBlk _⟩
theorem zr4 {ty : Nat} {m k u : zab} : zzaj base (zj4 C ty m k u) := by
 intro t X HA v H' ho h; unfold zj4 at h ⊢
 simp only [zad, zae] at h; obtain ⟨a, h1, b, h2, c, h3, h4, d, h5, h6, l, h7, h8, l', h9, h10⟩ := h
 cases h10; have h7' := h7
 unfold zgm at h7'; rw [zad] at h7'
 obtain ⟨y, h11, _⟩ := h7'
 refine ⟨_, ?_, ho.setBlk h11 _⟩
 simp only [zad, zae]; exact ⟨a, h1, b, h2, c, h3, h4, d, h5, h6, l, zft ho.le h7, h8, l', h9, rfl⟩
theorem ztj {ty : Nat} {l c : zab} : zzaj base (zce C ty l c) := by
 intro t X HA v H' ho h; unfold zce at h ⊢
 simp only [zad, zae] at h; obtain ⟨a, h1, b, h2, d, h3, n, h4, m, h5, h6, h7⟩ := h
 cases h7; refine ⟨za7 HA (zsk d.zero m) none, ?_, zqh _ _ ho⟩
 simp only [zad, zae]; exact ⟨a, h1, b, h2, d, h3, n, h4, m, h5, h6, rfl⟩
theorem zx0 {s d : Nat} {u : zab} : zzaj base (zti C s d u) := by
 intro t X HA v H' ho h; unfold zti at h ⊢
 simp only [zad, zae] at h; obtain ⟨a, h1, b, h2, c, h3, et, h4, k, h5, h6, l, h7, h8⟩ := h
 cases h8; refine ⟨za7 HA (zfj l) (some 1), ?_, zqh _ _ ho⟩
 simp only [zad, zae]; exact ⟨a, h1, b, h2, c, h3, et, h4, k, h5, h6, l, h7, rfl⟩
theorem zzc (h : HLe H HA) {sz n : Nat} {u : zab} {l : List zab} (hx : zom H sz n u = some l) : zom HA sz n u = some l := by
 unfold zom at hx ⊢
 split at hx
 ·rw [zad] at hx ⊢
  obtain ⟨c, h1, h2⟩ := hx
  exact ⟨c, zci h h1, h2⟩
 ·exact hx
theorem z34 (ho : Ov base t X HA) {ty : ATy} {a b : zab} {H' : zai} (h : zgh C ⟨HA.next, t⟩ ty a b = some (v, H')) : ∃ HA', zgh C HA ty a b = some (v, HA') /\ Ov base H'.t X HA' := by
 unfold zgh at h; simp only [zad] at h; obtain ⟨el, h1, et, h2, n, h3, new, h4, h5⟩ := h
 have h4' := zzc ho.le h4
 suffices hs : ∃ HA', (match a.asSlice with
  | some s => bif Nat.ble (s.2.2.1 + n) s.2.2.2 then zfx C HA et n new s else zhn C HA et n new s
  | none => zan (Nat.beq a.tag 5) (zff HA et n new)) = some (v, HA') /\ Ov base H'.t X HA' by
  obtain ⟨HA', g1, g2⟩ := hs
  refine ⟨HA', ?_, g2⟩
  unfold zgh; simp only [zad]; exact ⟨el, h1, et, h2, n, h3, new, h4', g1⟩
 cases hs : a.asSlice with
 | some s =>
  rw [hs] at h5; simp only [] at h5 ⊢
  rw [zar] at h5; split at h5
  ·rename_i hr
   simp only [hr, cond_true]; unfold zfx at h5 ⊢
   split at h5
   ·cases h5; exact ⟨HA, rfl, ho⟩
   ·rw [zad] at h5
    obtain ⟨H1, g1, g2⟩ := h5
    cases g2
    obtain ⟨HA', g3, g4⟩ := zvl ho g1
    exact ⟨HA', by simp only [g3, zac], g4⟩
  ·rename_i hr
   simp only [Bool.not_eq_true] at hr; simp only [hr, cond_false]; unfold zhn at h5 ⊢
   rw [zae] at h5; obtain ⟨g0, h5⟩ := h5
   rw [zad] at h5; obtain ⟨c, g1, h5⟩ := h5
   have g1' := zci ho.le g1
   unfold za1 at g1; rw [zad] at g1; obtain ⟨y, g2, _⟩ := g1
   split at h5
   ·rename_i hc
    unfold zhm at h5; rw [zad] at h5; obtain ⟨old, g3, g4⟩ := h5
    cases g4
    refine ⟨za7 HA (ziv old new) (some et.size), ?_, zqh _ _ ho⟩
    simp only [zae, zad]; refine ⟨g0, c, g1', ?_⟩
    rw [hc]; unfold zhm; simp only [zad]; exact ⟨old, g3, rfl⟩
   ·rename_i es hc
    unfold ziz at h5; rw [zae] at h5; obtain ⟨g3, g4⟩ := h5
    cases g4
    refine ⟨⟨HA.next + 1, (HA.t.del s.1).set HA.next (.cells (c.1.setMany new (s.2.2.1 * es)) ((s.2.2.1 + n) * es) (some es))⟩, ?_, (ho.delBlk g2).newBlk _⟩
    simp only [zae, zad]; refine ⟨g0, c, g1', ?_⟩
    rw [hc]; unfold ziz; exact zae.2 ⟨g3, rfl⟩
 | none =>
  rw [hs] at h5; simp only [] at h5 ⊢
  rw [zae] at h5; obtain ⟨g0, h5⟩ := h5
  unfold zff at h5; rw [zar] at h5; split at h5
  ·rename_i hn
   cases h5; refine ⟨HA, ?_, ho⟩
   rw [zae]; refine ⟨g0, ?_⟩
   unfold zff; rw [hn]; rfl
  ·rename_i hn
   rw [zae] at h5; obtain ⟨g1, h5⟩ := h5
   cases h5; refine ⟨za7 HA new (some et.size), ?_, zqh _ _ ho⟩
   rw [zae]; refine ⟨g0, ?_⟩
   unfold zff; simp only [Bool.not_eq_true] at hn; rw [hn, cond_false, zae]; exact ⟨g1, rfl⟩
theorem z2d {ty u : Nat} {a b : zab} : zzaj base (zbm C ty u a b) := by
 intro t X HA v H' ho h; unfold zbm at h; simp only [zad, zae] at h; obtain ⟨y, h1, z, h2, h3, h4⟩ := h
 obtain ⟨HA', g1, g2⟩ := z34 ho h4
 refine ⟨HA', ?_, g2⟩
 unfold zbm; simp only [zad, zae]; exact ⟨y, h1, z, h2, h3, g1⟩
end
def zn7 (ν : Nat -> Nat) (ae : zxt) (e : Env) : Prop := ∀ i p, tAd ae i = some p -> zzag i e = some (.ptr (ν p.1) p.2)
def zzad (base : Nat) (X0 X : Xt) (ν : Nat -> Nat) (lo : Tr (List zab)) : Prop := ∀ d l, lo.get d = some l -> X0 (ν d) = none /\ base <= ν d /\ ∃ c, X (ν d) = some (.cells c l.length none) /\ ∀ j a, l[j]? = some a -> c.get j = some a
theorem zbq {base : Nat} {W J : zhy} {α : Type} {x : Option α} {K : α -> T} {t : Tr zam} {Q : zav} : wpT base W J (obT x K) t Q ↔ ∃ a, x = some a /\ wpT base W J (K a) t Q := by
 cases x with
 | none => exact ⟨fun h => (by cases h), fun ⟨_, h, _⟩ => (by cases h)⟩
 | some a => exact ⟨fun h => ⟨a, rfl, h⟩, fun ⟨_, h, k⟩ => (by cases h; exact k)⟩
theorem zhz {base : Nat} {W J : zhy} {b : Bool} {K : T} {t : Tr zam} {Q : zav} : wpT base W J (gdT b K) t Q ↔ b = true /\ wpT base W J K t Q := by
 cases b with
 | false => exact ⟨fun h => (by cases h), fun ⟨h, _⟩ => (by cases h)⟩
 | true => exact ⟨fun h => ⟨rfl, h⟩, fun ⟨_, h⟩ => h⟩
theorem zlb {base : Nat} {W J : zhy} {x : Option zab} {K : zab -> T} {t : Tr zam} {Q : zav} : wpT base W J (.opt x K) t Q ↔ ∃ a, x = some a /\ wpT base W J (K a) t Q := zgv
theorem zkr {base : Nat} {W J : zhy} {x : Tr zam -> Option zab} {K : zab -> T} {t : Tr zam} {Q : zav} : wpT base W J (.light x K) t Q ↔ ∃ a, x t = some a /\ wpT base W J (K a) t Q := zgv
theorem zpj {ν : Nat -> Nat} {ae : zxt} {e : Env} (h : zn7 ν ae e) {x : Operand} {p : Nat × Nat} (hx : xAd ae x = some p) : ev x e = some (.ptr (ν p.1) p.2) := by
 cases x with
 | tmp i => exact h i p hx
 | const _ => cases hx
 | global _ => cases hx
 | func _ => cases hx
theorem zzgq {c : Tr zab} {l : List zab} (h : ∀ j a, l[j]? = some a -> c.get j = some a) : ∀ (n off : Nat), off + n <= l.length -> c.many n off = some ((l.drop off).take n) := by
 intro n; induction n with
 | zero => intro off _; simp; rfl
 | succ n ih =>
  intro off ho; have hlt : off < l.length := by omega
  rw [Tr.many_succ, h off l[off] (yae hlt), zac, ih (off + 1) (by omega), zac]
  rw [yam hlt, List.take_succ_cons]
section
variable {W J : zhy} {t : Tr zam} {X X0 : Xt} {HA : zai} {e eA : Env} {C : Ctx} {ν : Nat -> Nat} {ae : zxt} {lo : Tr (List zab)} {k : KOp} {Q : zav} {R : zab -> Prop}
theorem z1a (ho : Ov C.base t X HA) (hl : zzad C.base X0 X ν lo) {d off ty : Nat} {l : List zab} {y : ATy} {v : zab} (h1 : lo.get d = some l) (h2 : C.tys.get ty = some y) (h3 : Nat.ble (off + y.size) (zbv l) = true) (h4 : zoz C ty l off = some v) :
  zap C ty HA (.ptr (ν d) off) = some v := by
 obtain ⟨_, _, c, hc, hg⟩ := hl d l h1
 have hb := (ho.ext _ _ hc).1
 unfold zap; simp only [zab.asPtr, zac]; rw [h2, zac]; unfold za1; rw [hb, zac]; simp only [zam.asCells, zac]; unfold zoz at h4; rw [h2, zac] at h4; unfold znp; rw [zar] at h4 ⊢
 rw [zj1, zbc] at h3; split at h4
 ·rename_i ha
  rw [if_pos ha, zzgq hg _ _ h3, zac]; rw [zji, zfc] at h4; exact h4
 ·rename_i ha
  rw [if_neg ha]; rw [zbh] at h4; exact hg _ _ h4
theorem zfp (he : zo2 e eA) {op : Op} (hp : zt3 op = true \/ (∃ s d x, op = .convert s d x /\ (zlg C d = 1 \/ zlg C s = 2)) \/ (∃ c, op = .call c /\ (c.callee = .builtin .max \/ c.callee = .builtin .min)))
  (h : wpT C.base W J (z0e C op e k) t Q) (hKd : ∀ v, wpT C.base W J (k.Kd v) t Q -> R v) : ∃ v, (zb5 op).f C eA HA = some v /\ R v := by
 unfold z0e at h; rw [zbq] at h; obtain ⟨v, h1, h2⟩ := h
 exact ⟨v, zzc3 he hp h1, hKd v h2⟩
theorem z4s {ty : Nat} {u v : zab} {H : zai} (ht : zlg C ty = 4) (h : za8 u = some v) : z39 C ty H u = some v := by
 unfold zlg at ht
 cases hy : C.tys.get ty with
 | none => rw [hy] at ht; cases ht
 | some y =>
  rw [hy] at ht; have ht : y.desc.tag = 4 := ht
  unfold z39; rw [hy, zac]; unfold za8 at h; unfold z7w
  cases u <;> simp only [zab.asSlice, zab.asStr, zab.asMap, zab.tag] at h ⊢ <;> (try (rw [zae] at h; exact absurd h.1 (by decide)))
  case nilslice =>
   rw [zae] at h; have hn : y.desc.asArr = none := by cases hd : y.desc <;> rw [hd] at ht <;> first | rfl | (cases ht; done)
   rw [hn, ht]; simp only [zad, zae]; exact ⟨0, ⟨rfl, rfl⟩, h.2⟩
  case slice a b n m =>
   rw [ht]
   cases h; simp only [zad, zae]; exact ⟨n, ⟨rfl, rfl⟩, rfl⟩
theorem z8o {ty : Nat} {u v : zab} {H H' : zai} (ht : zlg C ty ≠ 6) (h : z39 C ty H u = some v) : z39 C ty H' u = some v := by
 unfold z39 at h ⊢
 simp only [zad] at h ⊢
 obtain ⟨y, h1, n, h2, h3⟩ := h
 refine ⟨y, h1, n, ?_, h3⟩
 have ht : ¬ Nat.beq y.desc.tag 6 = true := by
  intro hb; apply ht; unfold zlg; rw [h1]; exact zcz.1 hb
 unfold z7w at h2 ⊢
 split at h2
 ·exact h2
 ·split at h2
  ·exact h2
  ·split at h2
   ·exact h2
   ·split at h2
    ·rw [zae] at h2; exact absurd h2.1 ht
    ·exact h2
theorem z58 {ty : Nat} {a v : zab} {l h : Option zab} {H H' : zai} (ht : zlg C ty = 2) (hx : zen C ty H a l h = some v) : zen C ty H' a l h = some v := by
 unfold zen at hx ⊢
 rw [zad] at hx ⊢
 obtain ⟨y, h1, h2⟩ := hx
 refine ⟨y, h1, ?_⟩
 unfold zlg at ht; rw [h1] at ht; have ht : y.desc.tag = 2 := ht
 unfold zh2 at h2 ⊢
 have n1 : y.desc.asSlice = none := by cases hd : y.desc <;> rw [hd] at ht <;> first | rfl | (cases ht; done)
 have n2 : y.desc.asArr = none := by cases hd : y.desc <;> rw [hd] at ht <;> first | rfl | (cases ht; done)
 split at h2
 ·exact h2
 ·split at h2
  ·rw [n1] at h2; cases h2
  ·split at h2
   ·rw [n2] at h2; cases h2
   ·exact h2
theorem zqf {u : zab} (h : zab.one u = true) : u.cells = [u] := by
 cases u <;> first
  | rfl
  | (have := zdi.1 h; simp [zab.tag] at this)
theorem z3q {tyAt : Nat -> Option Nat} (place : Nat -> Option (Nat × Nat)) : ∀ (vs : List (Nat × zab)) {q : List (Nat × zab × List zab) × List zab}, z62 C tyAt vs = some q -> zd1 zab.one q.2 = true -> ∀ cells l, zzcx place q.1 cells = some l -> zo0 place vs cells = some l := by
 intro vs; induction vs with
 | nil => intro q h _ cells l hl; cases h; exact hl
 | cons p vs ih =>
  intro q h h1 cells l hl; have h : (ob (tyAt p.1) fun t => ob (C.tys.get t) fun ty => ob (z62 C tyAt vs) fun r => some (bif ty.desc.isAgg then ((p.1, p.2, p.2.cells) :: r.1, r.2) else ((p.1, p.2, [p.2]) :: r.1, p.2 :: r.2))) = some q := h
  simp only [zad] at h; obtain ⟨ty, _, y, _, r, h3, h4⟩ := h
  have fin : ∀ (rest : List zab), zd1 zab.one r.2 = true -> (ob (place p.1) fun q => ob (zzcw cells q.1 q.2 p.2.cells) fun cells => zzcx place r.1 cells) = some l -> zo0 place (p :: vs) cells = some l := by
   intro _ hr hl; show (ob (place p.1) fun q => ob (znw cells q.1 q.2 p.2) fun cells => zo0 place vs cells) = some l
   simp only [zad] at hl ⊢
   obtain ⟨a, g1, b, g2, g3⟩ := hl
   exact ⟨a, g1, b, g2, ih h3 hr _ _ g3⟩
  cases hb : y.desc.isAgg with
  | true =>
   rw [hb] at h4
   cases h4; exact fin [] h1 hl
  | false =>
   rw [hb] at h4
   cases h4; rw [zca, cond_false] at h1; simp only [ybh, yac] at h1; have hl : (ob (place p.1) fun q => ob (zzcw cells q.1 q.2 [p.2]) fun cells => zzcx place r.1 cells) = some l := hl
   rw [<- zqf h1.1] at hl; exact fin [] (by rw [zca]; exact h1.2) hl
theorem zzft (he : zo2 e eA) (ha : zn7 ν ae eA) (ho : Ov C.base t X HA) (hl : zzad C.base X0 X ν lo) {op : Op} (h : wpT C.base W J (tL C op e ae lo k) t Q)
  (hK : ∀ v, wpT C.base W J (k.K v) t Q -> R v) (hKd : ∀ v, wpT C.base W J (k.Kd v) t Q -> R v) (hKA : ∀ d off, wpT C.base W J (k.KA d off) t Q -> R (.ptr (ν d) off)) :
  ∃ v, (zb5 op).f C eA HA = some v /\ R v := by
 cases op <;> simp only [tL] at h <;> try (cases h; done)
 case move x =>
  unfold zzaw at h; split at h
  ·rename_i p hp
   exact ⟨_, zpj ha hp, hKA _ _ h⟩
  ·exact zfp he (.inl rfl) h hKd
 case assign x =>
  unfold zzaw at h; split at h
  ·rename_i p hp
   exact ⟨_, zpj ha hp, hKA _ _ h⟩
  ·exact zfp he (.inl rfl) h hKd
 case pick c a b => exact zfp he (.inl rfl) h hKd
 case load ty a =>
  unfold tLoad at h; split at h
  ·rename_i p hp
   simp only [zbq, zhz] at h; obtain ⟨l, h1, y, h2, h3, v, h4, h5⟩ := h
   refine ⟨v, ?_, hKd v h5⟩
   show znr ty a C eA HA = some v
   rw [z77, zpj ha hp, zac]; exact z1a ho hl h1 h2 h3 h4
  ·rw [zbq] at h
   obtain ⟨u, h1, h2⟩ := h
   rw [zkr] at h2; obtain ⟨v, h3, h4⟩ := h2
   refine ⟨v, ?_, hK v h4⟩
   show znr ty a C eA HA = some v
   rw [z77, za4 he h1, zac]; exact zd0 ho.le h3
 case nilCheck x =>
  unfold tNil at h; split at h
  ·rename_i p hp
   refine ⟨_, ?_, hKA _ _ h⟩
   show zzb9 x C eA HA = _
   rw [zzej (zpj ha hp)]; rfl
  ·rw [zbq] at h
   obtain ⟨u, h1, h2⟩ := h
   rw [zlb] at h2; obtain ⟨v, h3, h4⟩ := h2
   refine ⟨v, ?_, hK v h4⟩
   show zzb9 x C eA HA = _
   rw [zzej (za4 he h1)]; exact h3
 case binOp op ty x y u =>
  unfold tBin at h; rw [zar] at h; split at h
  ·exact zfp he (.inl rfl) h hKd
  ·simp only [zbq, zlb] at h
   obtain ⟨a, h1, b, h2, v, h3, h4⟩ := h
   refine ⟨v, ?_, hK v h4⟩
   show zwl op ty x y C eA HA = _
   rw [lBin_v (za4 he h1) (za4 he h2)]; exact h3
 case unOp o ty x =>
  split at h
  ·simp only [zbq, zlb] at h
   obtain ⟨u, h1, v, h2, h3⟩ := h
   refine ⟨v, ?_, hK v h3⟩
   show lUn .xor x C eA HA = _
   unfold lUn; rw [za4 he h1]; exact h2
  ·exact zfp he (.inl rfl) h hKd
 case convert s d x =>
  unfold zzfu at h; rw [zar] at h; split at h
  ·rename_i hd
   rw [zar] at h; split at h
   ·rename_i hs
    exact zfp he (.inr (.inl ⟨s, d, x, rfl, .inr (zcz.1 hs)⟩)) h hKd
   ·simp only [zbq, zkr] at h
    obtain ⟨u, h1, v, h2, h3⟩ := h
    refine ⟨v, ?_, hK v h3⟩
    show zk8 s d x C eA HA = _
    rw [z8a (za4 he h1)]; exact z2c ho.le h2
  ·rw [zar] at h
   split at h
   ·rename_i hd
    exact zfp he (.inr (.inl ⟨s, d, x, rfl, .inl (zcz.1 hd)⟩)) h hKd
   ·cases h
 case makeInterface ty x => exact zfp he (.inl rfl) h hKd
 case makeFunc fn a b => exact zfp he (.inl rfl) h hKd
 case slice ty x lo' hi mx =>
  cases mx with
  | some _ => cases h
  | none =>
   simp only [zzdu, zbq] at h; obtain ⟨a, h1, l, h2, r, h3, h4⟩ := h
   rw [zar] at h4; show ∃ v, zmr ty x lo' hi C eA HA = some v /\ R v
   rw [zzb8 (za4 he h1) (z1u he h2) (z1u he h3)]
   split at h4
   ·rename_i ht
    rw [zlb] at h4; obtain ⟨v, h5, h6⟩ := h4
    exact ⟨v, z58 (zcz.1 ht) h5, hK v h6⟩
   ·rw [zkr] at h4
    obtain ⟨v, h5, h6⟩ := h4
    exact ⟨v, zx1 ho.le h5, hK v h6⟩
 case fieldAddr s x f =>
  unfold zr8 at h; show ∃ v, zdh s x f C eA HA = some v /\ R v
  split at h
  ·rename_i p hp
   rw [zbq] at h; obtain ⟨o, h1, h2⟩ := h
   refine ⟨_, ?_, hKA _ _ h2⟩
   rw [zok (zpj ha hp)]
   unfold zaj; rw [h1]; rfl
  ·simp only [zbq, zlb] at h
   obtain ⟨u, h1, v, h2, h3⟩ := h
   refine ⟨v, ?_, hK v h3⟩
   rw [zok (za4 he h1)]; exact h2
 case field ty x f => exact zfp he (.inl rfl) h hKd
 case indexAddr ty x i =>
  unfold zr7 at h; show ∃ v, zdg ty x i C eA HA = some v /\ R v
  split at h
  ·rename_i p hp
   simp only [zbq] at h; obtain ⟨iv, h1, n, h2, o, h3, h4⟩ := h
   refine ⟨_, ?_, hKA _ _ h4⟩
   rw [zoi (zpj ha hp) (za4 he h1)]
   unfold zz6 at h3; simp only [zad, zae] at h3; obtain ⟨y, g1, a, g2, et, g3, g4, g5⟩ := h3
   cases g5
   unfold zaf; rw [g1, zac, h2, zac]; simp only [zab.asSlice, zab.asPtr, zac]; rw [g2, zac, g3, zac, g4]; rfl
  ·simp only [zbq, zlb] at h
   obtain ⟨u, h1, w, h2, v, h3, h4⟩ := h
   refine ⟨v, ?_, hK v h4⟩
   rw [zoi (za4 he h1) (za4 he h2)]; exact h3
 case index ty x i =>
  rw [zar] at h; split at h
  ·exact zfp he (.inl rfl) h hKd
  ·simp only [zbq, zlb] at h
   obtain ⟨u, h1, w, h2, v, h3, h4⟩ := h
   refine ⟨v, ?_, hK v h4⟩
   show zkg ty x i C eA HA = _
   rw [zzca (za4 he h1) (za4 he h2)]; exact h3
 case lookup ty x i ok =>
  simp only [zbq, zkr] at h; obtain ⟨m, h1, key, h2, v, h3, h4⟩ := h
  refine ⟨v, ?_, hK v h4⟩
  show zhj ty x i ok C eA HA = _
  rw [z76 (za4 he h1) (za4 he h2)]; exact zvb ho.le h3
 case extract x i =>
  simp only [zbq, zlb] at h; obtain ⟨u, h1, v, h2, h3⟩ := h
  refine ⟨v, ?_, hK v h3⟩
  show zfd x i C eA HA = _
  rw [z3e (za4 he h1)]; exact h2
 case typeAssert x a u ok =>
  simp only [zbq, zlb] at h; obtain ⟨w, h1, v, h2, h3⟩ := h
  refine ⟨v, ?_, hK v h3⟩
  show zhk x u ok C eA HA = _
  rw [z8c (za4 he h1)]; exact h2
 case build ty ps =>
  unfold zzdw at h; simp only [zbq, zhz] at h; obtain ⟨y, h1, hbd, vs, h2, q, h3, l, h4, h5⟩ := h
  have h5 : if zd1 zab.one q.2 = true then wpT C.base W J (k.Kd (.agg l)) t Q else False := h5
  split at h5
  ·rename_i hone
   refine ⟨_, ?_, hKd _ h5⟩
   show zll ty ps C eA HA = _
   have hf := z3q (zsn C y) vs h3 hone y.zero l h4
   unfold zll; rw [h1, zac, zuq he h2, zac]
   cases hs : y.desc.asStruct with
   | some fs =>
    simp only []; have : (fun i => ob (ze5 fs i) fun x => some (x.1, x.2.2)) = zsn C y := by funext i; unfold zsn; rw [hs]
    rw [this, hf]; rfl
   | none =>
    simp only []; unfold zxe at hbd; rw [hs] at hbd; simp only [] at hbd
    cases ha : y.desc.asArr with
    | none => rw [ha] at hbd; cases hbd
    | some a =>
     rw [ha] at hbd; simp only [] at hbd
     cases hy : C.tys.get a.2 with
     | none => rw [hy] at hbd; cases hbd
     | some et =>
      simp only [zac]; have : (fun i => some (i * et.size, et.size)) = zsn C y := by funext i; unfold zsn; rw [hs]; simp only []; rw [ha, zac, hy, zac]
      rw [hy, zac, this, hf]; rfl
  ·exact h5.elim
 case call c =>
  split at h
  ·rename_i b hb
   cases b <;> simp only [zmc] at h <;> try (cases h; done)
   case len =>
    unfold tLen at h; simp only [zbq] at h; obtain ⟨ty, h1, x, h2, u, h3, h4⟩ := h
    show ∃ v, (zge c c.callee).f C eA HA = some v /\ R v
    rw [hb]; show ∃ v, z1f c C eA HA = some v /\ R v
    rw [lLen_v h1 h2 (za4 he h3)]
    rw [zar] at h4; split at h4
    ·rename_i ht
     rw [zlb] at h4; obtain ⟨v, h5, h6⟩ := h4
     exact ⟨v, z4s (zcz.1 ht) h5, hK v h6⟩
    ·rw [zar] at h4
     split at h4
     ·rw [zkr] at h4
      obtain ⟨v, h5, h6⟩ := h4
      exact ⟨v, z4r ho.le h5, hK v h6⟩
     ·rename_i ht
      rw [zbq] at h4; obtain ⟨v, h5, h6⟩ := h4
      exact ⟨v, z8o (fun e => ht (zcz.2 e)) h5, hKd v h6⟩
   case max => exact zfp he (.inr (.inr ⟨c, rfl, .inl hb⟩)) h hKd
   case min => exact zfp he (.inr (.inr ⟨c, rfl, .inr hb⟩)) h hKd
  ·cases h
end
end Go.Am
