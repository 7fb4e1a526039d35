/- Code as a function: all functions of a program; what a value is worth. -/
import Derived.Test.YtbgilkcahebbfaaGreatDoorB05
set_option linter.all false
noncomputable section
namespace Go.Am
open Go Go.RowKit
def endK (C : Ctx) (fn : Func) (tm : Tm) (H : zaf) : zbs := ob (zgp C H tm fn.results.toList) fun l => some (zlq l, H)
def zzdg (C : Ctx) (fn : Func) : Kt := ⟨endK C fn, fun _ _ _ => none, endK C fn⟩
def zmm (ops : List Oper) : Bool := zd9 (fun o => match o.op with | .move _ => zcm o.guard | .assign _ => zcm o.guard | _ => false) ops
def zmp (c : zcc) : Option z2m := match zej c with | [q] => some q | _ => none
def rdOk (r : zk5) (q : z2m) : Prop := r.assign = .region q.id q.ops false /\ r.body = zdh q.c /\ r.params = q.ps.toList /\ LoopState.tag r.state = 0 /\ zmm q.ops.toList = true /\ zej q.c = []
def z2e (r : zk5) : zk5 := ⟨.busy, r.pending, r.fn, r.n, r.tm, r.params, r.assign, r.body, r.defers⟩
def zro (b : Bool) (r : zk5) : zk5 := ⟨if b then .ready else .done, if b then none else some .ret, r.fn, r.n, r.tm, r.params, r.assign, r.body, r.defers⟩
def rdK : Kt := ⟨fun _ H => some (.bool true, H), fun _ _ _ => none, fun _ H => some (.bool false, H)⟩
def zzgb (C : Ctx) (φ : Ora) (fn n : Nat) (q : z2m) (tm : Tm) (H : zaf) : zbs := den C φ fn n (.seq (.region q.id q.ops false) q.c) rdK tm H
def zq5 (C : Ctx) (A : Tr zcc) (φ : Ora) (l : Nat) (args : List zab) (H : zaf) : zbs :=
 ob (zd7 H l) fun r => ob (zeg r.n r.params args r.tm) fun tm => ob (A.get r.fn) fun c => ob (zmp c) fun q => @ite _ (rdOk r q) (Classical.propDecidable _)
  (ob (zzgb C φ r.fn r.n q tm (setBlk H l (.loop (z2e r)))) fun x => ob (zd7 x.2 l) fun r2 => ob x.1.asBool fun b => some (.bool b, setBlk x.2 l (.loop (zro b r2)))) none
def z7m (C : Ctx) (A : Tr zcc) (φ : Ora) (f : Nat) (args : List zab) (H : zaf) : zbs :=
 ob (A.get f) fun c => ob (C.fns.get f) fun fn => ob (zfl C f args false) fun g => den C φ f fn.ntmps c (zzdg C fn) g.tm H
def z0q (C : Ctx) (A : Tr zcc) (φ : Ora) : Ora
 | .func f => z7m C A φ f
 | .yld l => zq5 C A φ l
def zzhf (C : Ctx) (A : Tr zcc) : Nat -> Ora
 | 0 => fun _ _ _ => none
 | n + 1 => z0q C A (zzhf C A n)
def fnV (C : Ctx) (A : Tr zcc) : Ora := fun f args H => lim fun n => zzhf C A n f args H
section
variable {C : Ctx} {A : Tr zcc}
theorem zfw {φ : Ora} {l : Nat} {args : List zab} {H : zaf} {x : zab × zaf} : zq5 C A φ l args H = some x ↔ ∃ r tm c q y r2 b, zd7 H l = some r /\ zeg r.n r.params args r.tm = some tm /\ A.get r.fn = some c /\ zmp c = some q /\ rdOk r q /\ zzgb C φ r.fn r.n q tm (setBlk H l (.loop (z2e r))) = some y /\ zd7 y.2 l = some r2 /\ y.1 = .bool b /\ x = (.bool b, setBlk y.2 l (.loop (zro b r2))) := by
 unfold zq5; simp only [zad]; constructor
 ·rintro ⟨r, h1, tm, h2, c, h3, q, h4, h⟩
  by_cases hq : rdOk r q
  ·rw [if_pos hq] at h
   simp only [zad] at h; obtain ⟨y, h5, r2, h6, b, h7, h8⟩ := h
   exact ⟨r, tm, c, q, y, r2, b, h1, h2, h3, h4, hq, h5, h6, zdv.1 h7, by cases h8; rfl⟩
  ·rw [if_neg hq] at h; cases h
 ·rintro ⟨r, tm, c, q, y, r2, b, h1, h2, h3, h4, hq, h5, h6, h7, h8⟩
  refine ⟨r, h1, tm, h2, c, h3, q, h4, ?_⟩
  rw [if_pos hq]; simp only [zad]; exact ⟨y, h5, r2, h6, b, zdv.2 h7, by rw [h8]⟩
theorem ztw {φ φ' : Ora} (h : OLe φ φ') : OLe (z0q C A φ) (z0q C A φ') := by
 intro f args H x hx
 cases f with
 | yld l =>
  have hx : zq5 C A φ l args H = some x := hx
  obtain ⟨r, tm, c, q, y, r2, b, h1, h2, h3, h4, hq, h5, h6, h7, h8⟩ := zfw.1 hx
  exact zfw.2 ⟨r, tm, c, q, y, r2, b, h1, h2, h3, h4, hq, zjf h _ _ _ (KLe.refl _) _ _ _ h5, h6, h7, h8⟩
 | func f =>
 have hx : z7m C A φ f args H = some x := hx
 show z7m C A φ' f args H = some x
 unfold z7m at hx ⊢
 rw [zad] at hx ⊢
 obtain ⟨c, h1, hx⟩ := hx
 refine ⟨c, h1, ?_⟩
 rw [zad] at hx ⊢
 obtain ⟨fn, h2, hx⟩ := hx
 refine ⟨fn, h2, ?_⟩
 rw [zad] at hx ⊢
 obtain ⟨g, h3, hx⟩ := hx
 exact ⟨g, h3, zjf h c _ _ (KLe.refl _) _ _ _ hx⟩
theorem zzaa : ∀ n, OLe (zzhf C A n) (zzhf C A (n + 1)) := by
 intro n; induction n with
 | zero => intro f args H x h; cases h
 | succ n ih => exact ztw ih
theorem zjc {f : AFn} {args : List zab} {H : zaf} {x : zab × zaf} : fnV C A f args H = some x ↔ ∃ n, zzhf C A n f args H = some x :=
 zp3 fun n _ hy => zzaa n _ _ _ _ hy
theorem zzby : zzgn (zzhf C A) (fnV C A) := ⟨zzaa, fun _ _ _ _ h => zjc.1 h⟩
theorem zzh3 (f : AFn) (args : List zab) (H : zaf) : fnV C A f args H = z0q C A (fnV C A) f args H := by
 have key : ∀ x, fnV C A f args H = some x ↔ z0q C A (fnV C A) f args H = some x := by
  intro x; constructor
  ·intro h
   obtain ⟨n, hn⟩ := zjc.1 h
   cases n with
   | zero => cases hn
   | succ n => exact ztw (fun f a H y hy => zjc.2 ⟨n, hy⟩) _ _ _ _ hn
  ·intro h
   cases f with
   | yld l =>
    have h : zq5 C A (fnV C A) l args H = some x := h
    obtain ⟨r, tm, c, q, y, r2, b, h1, h2, h3, h4, hq, h5, h6, h7, h8⟩ := zfw.1 h
    have sup : zzky (fun _ => rdK) rdK := ⟨⟨fun _ _ _ _ h => h, fun _ _ _ h => ⟨0, h⟩⟩, fun i => ⟨fun _ _ _ _ h => h, fun _ _ _ h => ⟨0, h⟩⟩, ⟨fun _ _ _ _ h => h, fun _ _ _ h => ⟨0, h⟩⟩⟩
    obtain ⟨n, hn⟩ := (z16 zzby _ _ _ sup).ex _ _ _ h5
    exact zjc.2 ⟨n + 1, zfw.2 ⟨r, tm, c, q, y, r2, b, h1, h2, h3, h4, hq, hn, h6, h7, h8⟩⟩
   | func f =>
   have h : z7m C A (fnV C A) f args H = some x := h
   unfold z7m at h; rw [zad] at h; obtain ⟨c, h1, h⟩ := h
   rw [zad] at h; obtain ⟨fn, h2, h⟩ := h
   rw [zad] at h; obtain ⟨g, h3, h⟩ := h
   have sup : zzky (fun _ => zzdg C fn) (zzdg C fn) := ⟨⟨fun _ _ _ _ h => h, fun _ _ _ h => ⟨0, h⟩⟩, fun i => ⟨fun _ _ _ _ h => h, fun _ _ _ h => ⟨0, h⟩⟩, ⟨fun _ _ _ _ h => h, fun _ _ _ h => ⟨0, h⟩⟩⟩
   obtain ⟨n, hn⟩ := (z16 zzby c _ _ sup).ex _ _ _ h
   refine zjc.2 ⟨n + 1, ?_⟩
   show z7m C A (zzhf C A n) f args H = some x
   unfold z7m; rw [h1, zac, h2, zac, h3, zac]; exact hn
 cases h : fnV C A f args H with
 | some x => exact ((key x).1 h).symm
 | none =>
  cases h2 : z0q C A (fnV C A) f args H with
  | none => rfl
  | some x => rw [(key x).2 h2] at h; cases h
def zl9 (C : Ctx) (A : Tr zcc) : Prop := ∀ f c, A.get f = some c -> ∃ fn, C.fns.get f = some fn /\ fn.body = some (zdh c)
theorem z1z {f : Nat} {args : List zab} {g : zap} (h : zfl C f args false = some g) : ∃ fn c, C.fns.get f = some fn /\ fn.body = some c /\ g.todo = [.code c] /\ g.R = ⟨f, fn.ntmps, [], .run, false, none⟩ := by
 unfold zfl at h; simp only [zad, zae] at h; obtain ⟨fn, h1, c, h2, k, h3, _, h⟩ := h
 cases h; exact ⟨fn, c, h1, h2, rfl, rfl⟩
theorem zko {α β : Type} {f g : α -> Option β} : ∀ (l : List α) {r : List β}, (∀ a b, f a = some b -> g a = some b) -> zd4 f l = some r -> zd4 g l = some r := by
 intro l; induction l with
 | nil => intro r _ h; exact h
 | cons a l ih =>
  intro r hfg h; rw [zch, zad] at h ⊢
  obtain ⟨b, h1, h⟩ := h
  refine ⟨b, hfg _ _ h1, ?_⟩
  rw [zad] at h ⊢
  obtain ⟨s, h2, h⟩ := h
  exact ⟨s, ih hfg h2, h⟩
def zzkz (C : Ctx) (f : Nat) (acs : List zap) : zzic := fun ds o x => ∃ fr', o = .next ⟨fr', acs, x.2⟩ /\ zw2 C f ds fr' x.2 x.1
theorem z0w {H : zaf} {tm : Tm} {r : Nat} {d e : Option (List zps)} (hr : H.t.get r = some (.deferred d)) : ∀ (l : List ResultVar) vs, zgp C H tm l = some vs -> zgp C (setBlk H r (.deferred e)) tm l = some vs := by
 intro l vs h; refine zko l (fun rv v h => ?_) h
 cases rv with
 | tmp t => exact h
 | cell a t =>
  have h : (ob (ob (tm.get a) zab.asPtr) fun p => ob (C.tys.get t) fun ty => ob (zaq H p.1) fun c => zob ty c.1 p.2) = some v := h
  show (ob (ob (tm.get a) zab.asPtr) fun p => ob (C.tys.get t) fun ty => ob (zaq (setBlk H r (.deferred e)) p.1) fun c => zob ty c.1 p.2) = some v
  simp only [zad] at h ⊢
  obtain ⟨p, hp, ty, ht, c, hc, hv⟩ := h
  refine ⟨p, hp, ty, ht, c, ?_, hv⟩
  unfold zaq at hc ⊢
  rw [zad] at hc ⊢
  obtain ⟨y, h1, h2⟩ := hc
  refine ⟨y, ?_, h2⟩
  show (H.t.set r (.deferred e)).get p.1 = some y
  rw [Tr.get_set, if_neg fun e => by rw [e, hr] at h1; cases h1; cases h2]
  exact h1
theorem zzfq {f N : Nat} {acs : List zap} : z7g C (zzkz C f acs) (fun _ => True) f N none acs := by
 refine ⟨?_, fun _ _ => trivial, ?_⟩
 ·rintro ds todo tm H x ⟨fr', h1, h2⟩
  cases h1; have := h2.1
  cases this
 ·rintro _ r ds o x ⟨fr', rfl, h1, h2, h3, h4, fn, l, h5, h6, h7⟩ hd
  obtain ⟨todo, tm, ffn, n, defers, mode, deferred, round⟩ := fr'
  simp only at h1 h2 h3 h4 h6
  subst h1 h2 h3 h4
  have hr : x.2.t.get r = some (.deferred (some [])) := by
   unfold zf6 at hd; rw [zae, zad] at hd; obtain ⟨_, y, e1, e2⟩ := hd
   cases y <;> cases e2
   exact e1
  refine ⟨_, .step ?_, ⟨⟨todo, tm, ⟨ffn, n, ds, .returning, false, round⟩⟩, rfl, rfl, rfl, rfl, rfl, fn, l, h5, z0w hr _ _ h6, h7⟩⟩
  show zjn C (zxl C ⟨none, r, []⟩ ds ⟨todo, tm, ⟨ffn, n, ⟨none, r, []⟩ :: ds, .returning, false, round⟩⟩ acs x.2) _
  unfold zxl; simp only [hd, zac]; exact .refl _
theorem z4n {f : Nat} {fn : Func} {acs : List zap} {x : zab × zaf} {ds : List zps} (hf : C.fns.get f = some fn) {tm : Tm} {H : zaf} (h : endK C fn tm H = some x) {todo : List zcj} {N : Nat}
  (hs : zm7 C todo tm (RR f N none ds) acs H = .next ⟨zq1 ⟨todo, tm, RR f N none ds⟩ .returning, acs, H⟩) : Fin C (zzkz C f acs) ds (.next ⟨⟨todo, tm, RR f N none ds⟩, acs, H⟩) x := by
 unfold endK at h; rw [zad] at h; obtain ⟨l, h1, h2⟩ := h
 cases h2; refine .step ?_
 rw [zco rfl, hs]; exact ⟨_, .refl _, _, rfl, rfl, rfl, rfl, rfl, fn, l, hf, h1, rfl⟩
def RdG (l : Nat) (c : zap) : zab × zaf -> Prop := fun x => ∃ b r2 c', x.1 = .bool b /\ zd7 x.2 l = some r2 /\ zb4 c (.bool b) = some c'
def RdEnd (l : Nat) (c : zap) (acs : List zap) : zzic := fun _ o x => ∃ b r2 c', x.1 = .bool b /\ zd7 x.2 l = some r2 /\ zb4 c (.bool b) = some c' /\ o = .next ⟨c', acs, setBlk x.2 l (.loop (zro b r2))⟩
theorem len_ne {α : Type} {a : α} {l : List α} : l ≠ a :: l := fun e => by have := congrArg List.length e; simp at this
theorem z65 {C : Ctx} {φ : Ora} {all : Array Oper} {n : Nat} {κn : Tm -> zaf -> zbs} : ∀ (l : List Oper) (tm : Tm) (H1 : zaf) (x : zab × zaf), zmm l = true -> zw4 C φ all n κn l tm H1 = some x -> ∃ tm', κn tm' H1 = some x /\ ∀ (k : List zcj) (R : zgv) (cs : List zap) (H : zaf), R.n = n -> zj2 C all k R cs l tm H = xGo k tm' R cs H := by
 intro l; induction l with
 | nil => intro tm H1 x _ h; exact ⟨tm, h, fun _ _ _ _ _ => rfl⟩
 | cons o l ih =>
  intro tm H1 x hp h; have hp : (bif (match o.op with | .move _ => zcm o.guard | .assign _ => zcm o.guard | _ => false) then zmm l else false) = true := hp
  have hp1 : (match o.op with | .move _ => zcm o.guard | .assign _ => zcm o.guard | _ => false) = true := by
   cases hx : (match o.op with | .move _ => zcm o.guard | .assign _ => zcm o.guard | _ => false) with
   | true => rfl
   | false => rw [hx] at hp; cases hp
  rw [hp1] at hp; have hp : zmm l = true := hp
  have hmv : ∃ u, (∀ H, (aop o.op).f C (.now tm) H = lv (zrq u) C (.now tm) H) /\ zcm o.guard = true := by
   cases ho : o.op <;> rw [ho] at hp1 <;> first
    | (cases hp1; done)
    | exact ⟨_, fun _ => rfl, hp1⟩
  obtain ⟨u, hu, hg⟩ := hmv
  have hw : zbb o.guard all tm = some true := by
   cases hx : o.guard with
   | none => rfl
   | some g => rw [hx] at hg; cases hg
  rw [zg7, hw, zac, if_pos rfl, hu] at h
  cases hv : ev u (.now tm) with
  | none =>
   have : lv (zrq u) C (.now tm) H1 = .fail := by unfold lv zrq; rw [hv]
   rw [this] at h; cases h
  | some v =>
   have hval : ∀ H, lv (zrq u) C (.now tm) H = .val v H := fun H => by unfold lv zrq; rw [hv]
   rw [hval] at h; simp only [zjr, zcg] at h; obtain ⟨tm', h1, h2⟩ := ih _ _ _ hp h.2
   refine ⟨tm', h1, fun k R cs H hR => ?_⟩
   rw [zlw, hw]; simp only []; rw [hu, hval]; simp only [zs4.asVal]; rw [hR]; exact h2 k R cs H hR
theorem zxz {φ : Ora} (hφ : zlm C φ) {l : Nat} {args : List zab} {H : zaf} {x : zab × zaf} (h : zq5 C A φ l args H = some x) :
  ∃ r tm, zd7 H l = some r /\ zeg r.n r.params args r.tm = some tm /\ ∀ c acs c', zb4 c x.1 = some c' -> zjn C (.next ⟨z0v r l tm, c :: acs, H⟩) (.next ⟨c', acs, x.2⟩) := by
 obtain ⟨r, tm, cc, q, y, r2, b, h1, h2, h3, h4, ⟨q1, q2, q3, q4, q5, q6⟩, h5, h6, h7, rfl⟩ := zfw.1 h
 refine ⟨r, tm, h1, h2, fun c acs c' hc => ?_⟩
 have h5 : zw4 C φ q.ops r.n (den C φ r.fn r.n q.c rdK) q.ops.toList tm.cut (setBlk H l (.loop (z2e r))) = some y := h5
 obtain ⟨tm', h8, h9⟩ := z65 _ _ _ _ q5 h5
 unfold z0v; rw [q1, q2]; refine .step ?_
 rw [zco rfl]; show zjn C (zj2 C q.ops _ _ _ q.ops.toList tm.cut H) _
 rw [h9 _ _ _ _ rfl]; refine .step ?_
 show zjn C (zm7 C (.beginRound :: [.code (zdh q.c)]) tm' ⟨r.fn, r.n, [], .run, false, some l⟩ (c :: acs) H) _
 have hb : zm7 C (.beginRound :: [.code (zdh q.c)]) tm' ⟨r.fn, r.n, [], .run, false, some l⟩ (c :: acs) H = .next ⟨⟨[.code (zdh q.c)], tm', RR r.fn r.n (some l) []⟩, c :: acs, setBlk H l (.loop (z2e r))⟩ := by
  show zxa C [.code (zdh q.c)] tm' _ (c :: acs) H = _
  unfold zxa; simp only [zac]; rw [h1, zac, q4]; rfl
 rw [hb]; have hc : zb4 c (.bool b) = some c' := hc
 have hE : z7g C (RdEnd l c acs) (RdG l c) r.fn r.n (some l) (c :: acs) := by
  refine ⟨?_, fun e => (by cases e), fun e => (by cases e)⟩
  rintro ds todo tm H x ⟨b, r2, c', _, _, _, e⟩
  injection e with e
  injection e with _ e _
  exact len_ne e.symm
 have hK : z4x C (RdEnd l c acs) (RdG l c) r.fn r.n (some l) (c :: acs) rdK [] := by
  refine ⟨?_, fun _ _ _ _ _ _ h => (by cases h), ?_⟩
  ·rintro ds x tm H ⟨b, r2, c', g1, g2, g3⟩ h
   cases h
   cases g1
   refine .step ?_
   rw [zco rfl]; have : zm7 C [] tm (RR r.fn r.n (some l) ds) (c :: acs) H = .next ⟨c', acs, setBlk H l (.loop (zro true r2))⟩ := by
    have e0 : zm7 C [] tm (RR r.fn r.n (some l) ds) (c :: acs) H = zit none C ⟨[], tm, RR r.fn r.n (some l) ds⟩ (c :: acs) H := rfl
    rw [e0]; unfold zit; simp only [g2, zac]; show zia (ob (zb4 c (.bool true)) _) 7 = _
    rw [g3]; rfl
   rw [this]; exact ⟨_, .refl _, true, r2, c', rfl, g2, g3, rfl⟩
  ·rintro ds x tm H ⟨b, r2, c', g1, g2, g3⟩ h k'
   cases h
   cases g1
   refine .step ?_
   rw [zco rfl]; have : zm7 C (.code .ret :: k') tm (RR r.fn r.n (some l) ds) (c :: acs) H = .next ⟨c', acs, setBlk H l (.loop (zro false r2))⟩ := by
    have e0 : zm7 C (.code .ret :: k') tm (RR r.fn r.n (some l) ds) (c :: acs) H = zit (some .ret) C ⟨.code .ret :: k', tm, RR r.fn r.n (some l) ds⟩ (c :: acs) H := rfl
    rw [e0]; unfold zit; simp only [g2, zac]; show zia (ob (zb4 c (.bool false)) _) 7 = _
    rw [g3]; rfl
   rw [this]; exact ⟨_, .refl _, false, r2, c', rfl, g2, g3, rfl⟩
 obtain ⟨o', k1, b', r2', c'', k2, k3, k4, rfl⟩ := zy8 hφ hE q.c rdK [] (Or.inr q6) hK [] y tm' _ ⟨b, r2, c', h7, h6, hc⟩ h8
 rw [h7] at k2; cases k2
 rw [h6] at k3; cases k3
 rw [hc] at k4; cases k4
 exact k1
theorem z0p (hA : zl9 C A) {φ : Ora} (hφ : zlm C φ) : zlm C (z0q C A φ) := by
 refine ⟨fun f args H x h => ?_, fun l args H x h => zxz hφ h⟩
 have h : z7m C A φ f args H = some x := h
 unfold z7m at h; rw [zad] at h; obtain ⟨c, h1, h⟩ := h
 rw [zad] at h; obtain ⟨fn, h2, h⟩ := h
 rw [zad] at h; obtain ⟨g, h3, h⟩ := h
 refine ⟨g, h3, fun acs => ?_⟩
 obtain ⟨fn', c', e1, e2, e3, e4⟩ := z1z h3
 rw [h2] at e1; cases e1
 obtain ⟨fn', e5, e6⟩ := hA f c h1
 rw [h2] at e5; cases e5
 rw [e2] at e6; cases e6
 obtain ⟨gt, gtm, gR⟩ := g
 simp only at e3 e4 h
 subst e3 e4
 have hK : z4x C (zzkz C f acs) (fun _ => True) f fn.ntmps none acs (zzdg C fn) [] := ⟨fun ds x tm H _ h => z4n h2 h rfl, fun ds x i tm H _ h => (by cases h), fun ds x tm H _ h k' => z4n h2 h rfl⟩
 obtain ⟨o', k1, fr', rfl, k2⟩ := zy8 hφ zzfq c (zzdg C fn) [] (Or.inl rfl) hK [] x gtm H trivial h
 exact ⟨fr', k1, k2⟩
theorem zui (hA : zl9 C A) : ∀ n, zlm C (zzhf C A n) := by
 intro n; induction n with
 | zero => exact ⟨fun f args H x h => (by cases h), fun l args H x h => (by cases h)⟩
 | succ n ih => exact z0p hA ih
theorem zzbz (hA : zl9 C A) : zlm C (fnV C A) := by
 refine ⟨fun f args H x h => ?_, fun f args H x h => ?_⟩
 ·obtain ⟨n, hn⟩ := zjc.1 h
  exact (zui hA n).fn _ _ _ _ hn
 ·obtain ⟨n, hn⟩ := zjc.1 h
  exact (zui hA n).rd _ _ _ _ hn
theorem zzd {P : Program} {B N : Nat} {I : World -> Prop} {μ : Mu} {w : World} (hS : Sim P C B N I) (hI : I w) (hA : zl9 C A) {f : Nat} {args : List zab} {args' : Array Value} {H H' : zaf} {v : zab} (hH : zbf B N μ H w) (hl : zbk μ args args'.toList)
  (h : fnV C A (.func f) args H = some (v, H')) : Calls P f args' w fun e w' => ∃ v' μ', e = .returned v' /\ μ.lw μ' /\ zan μ' v v' /\ zbf B N μ' H' w' /\ Below N w w' := by
 intro base; obtain ⟨g, he, hr⟩ := (zzbz hA).fn _ _ _ _ h
 obtain ⟨fr', r1, h1, h2, h3, h4, fn, l, h5, h6, rfl⟩ := hr []
 have h0 : zb8 P C B N μ base (lone (Frame.enter P f args' .normal) base w) w (.next ⟨g, [], H⟩) := zpy hS.fns hH hl he
 obtain ⟨μ', b, cs, w', s1, s2, s3, s4, s5, s6⟩ := zb8.reach hS hI r1 h0
 cases s6
 have hb := s5.body
 rw [if_neg (by rw [h1]; simp [zto.running])] at hb
 obtain ⟨v', q1, q2⟩ := zt7 hS.tys s4 hb h6
 have hm := s5.rest.mode
 rw [h1] at hm; have hbm : b.mode = .returning := by
  cases hb : b.mode with
  | returning => rfl
  | _ => rw [hb] at hm; exact hm.elim
 have hd := s5.rest.defers
 rw [h2] at hd; have hbd : b.defers = [] := by
  generalize hx : b.defers = bd at hd
  cases hd; rfl
 have hk := s5.rest.kind
 rw [h3] at hk; have hfn : b.fn = f := by rw [s5.rest.fn, h4]
 exact ⟨.returned v', w', b, ⟨v', μ', rfl, s2, q2, s4, s3⟩, s1, hfn, hbm, hbd, hk, fn, by rw [hfn]; exact (hS.fns _ _ h5).1, q1⟩
end
end Go.Am
namespace Go.Am
open Go Go.RowKit
def zau (C : Ctx) (t : Nat) (H : zaf) (v : zab) : Option zab := ob v.asPtr fun p => ob (C.tys.get t) fun ty => ob (zaq H p.1) fun c => zob ty c.1 p.2
def zk1 (C : Ctx) (s d : Nat) (H : zaf) (a : zab) : Option zab := ob (C.tys.get s) fun s => ob (C.tys.get d) fun d => zna C s d a H
def zcu (C : Ctx) (t : Nat) (H : zaf) (a : zab) (l h : Option zab) : Option zab := ob (C.tys.get t) fun ty => zgd C H ty a l h
def zg2 (C : Ctx) (s f : Nat) : Option Nat := ob (C.tys.get s) fun ty => ob ty.desc.asStruct fun fs => ob (zd8 fs f) fun fd => zaj (!Nat.beq fd.2.2 0) (some fd.1)
def za4 (C : Ctx) (s f : Nat) (v : zab) : Option zab := ob (zg2 C s f) fun k => ob v.asPtr fun p => some (.ptr p.1 (p.2 + k))
def zah (C : Ctx) (t : Nat) (v i : zab) : Option zab :=
 ob (C.tys.get t) fun ty => ob i.asNat fun i =>
  match v.asSlice with
  | some s => ob ty.desc.asSlice fun el => ob (C.tys.get el) fun et => zaj (Nat.blt i s.2.2.1) (some (.ptr s.1 (s.2.1 + i * et.size)))
  | none => ob v.asPtr fun p => ob ty.desc.asArr fun a => ob (C.tys.get a.2) fun et => zaj (Nat.blt i a.1) (some (.ptr p.1 (p.2 + i * et.size)))
def z2v (C : Ctx) (t i : Nat) : Option Nat := ob (C.tys.get t) fun ty => ob ty.desc.asArr fun a => ob (C.tys.get a.2) fun et => zaj (Nat.blt i a.1) (some (i * et.size))
def zmb (C : Ctx) (t : Nat) (v i : zab) : Option zab :=
 ob (C.tys.get t) fun ty => ob i.asNat fun i =>
  match v.asStr with
  | some s => zaj ty.desc.isString (ob (zd8 s i) fun b => some (.int .u8 (.ofNat b)))
  | none => ob v.asAgg fun l => ob ty.desc.asArr fun a => ob (C.tys.get a.2) fun et => zaj (Nat.blt i a.1) (zlx C a.2 l (i * et.size))
def zar (i : Nat) (v : zab) : Option zab := ob v.asTup fun l => zd8 l i
def z7j (C : Ctx) (t : Nat) (H : zaf) (v : zab) : Option zab := ob (C.tys.get t) fun ty => ob (z7l H ty v) fun n => some (.int .i64 (.ofNat n))
def zbm (v : zab) : Option zab :=
 match v.asSlice with
 | some s => some (.int .i64 (.ofNat s.2.2.1))
 | none => zaj (Nat.beq v.tag 5) (some (.int .i64 (.ofNat 0)))
def z2u (v : zab) : Option zab := zaj (Nat.beq v.tag 4 || Nat.beq v.tag 9) (some v)
def z0f (C : Ctx) (u : Nat) (ok : Bool) (v : zab) : Option zab :=
 ob (C.tys.get u) fun ty => zaj (Nat.blt ty.desc.tag 9) (
  match v.asIface with
  | some p => bif Nat.beq p.1 u then some (bif ok then .tup [p.2, .bool true] else p.2) else zaj ok (some (.tup [zs6 ty, .bool false]))
  | none => zaj (Nat.beq v.tag 12 && ok) (some (.tup [zs6 ty, .bool false])))
def zh6 (C : Ctx) (t : Nat) (H : zaf) (m k : zab) (ok : Bool) : Option zab :=
 ob (C.tys.get t) fun ty => ob ty.desc.asMap fun ke => ob (C.tys.get ke.1) fun kty => zaj (zjv C kty) (ob (C.tys.get ke.2) fun ety =>
  ob (zrj H m) fun es => zaj (zfj C kty k) (ob (zhg k es) fun r =>
   match r with
   | some v => some (bif ok then .tup [v, .bool true] else v)
   | none => some (bif ok then .tup [zs6 ety, .bool false] else zs6 ety)))
def zjq (C : Ctx) (t : Nat) (H : zaf) : Option (zab × zaf) := ob (C.tys.get t) fun ty => some (.ptr H.next 0, za0 H ty.zero none)
def z0e (v : zab) (H : zaf) : Option (zab × zaf) := some (.ptr H.next 0, za0 H v.cells none)
def zlp (C : Ctx) (t : Nat) (H : zaf) : Option (zab × zaf) := ob (C.tys.get t) fun ty => some (.ptr H.next 0, za0 H ty.zero (zh7 C t))
def zzil (C : Ctx) (t : Nat) (v : zab) (H : zaf) : Option (zab × zaf) := some (.ptr H.next 0, za0 H v.cells (zh7 C t))
def za5 (C : Ctx) (t len : Nat) (ps : List (Nat × zab)) (H : zaf) : Option (zab × zaf) :=
 ob (C.tys.get t) fun ty => ob ty.desc.asSlice fun el => ob (C.tys.get el) fun et =>
  zaj (Nat.blt (len * et.size) 1000000 && Nat.beq (zbw et.zero) et.size) (ob (zm6 (fun i => some (i * et.size, et.size)) ps (zvx et.zero len)) fun l => some (.slice H.next 0 len len, za0 H l none))
def zbl (C : Ctx) (t : Nat) (a v : zab) (H : zaf) : Option (zab × zaf) := ob (C.tys.get t) fun ty => ob a.asPtr fun p => zaj (Nat.beq (zbw v.cells) ty.size) (ob (zem C H p.1 p.2 v.cells) fun H' => some (zbh, H'))
def zpu (H : zaf) : Option (zab × zaf) := some (.map H.next, newBlk H (.map []))
def zfr (C : Ctx) (t : Nat) (m k v : zab) (H : zaf) : Option (zab × zaf) :=
 ob (C.tys.get t) fun ty => ob ty.desc.asMap fun ke => ob (C.tys.get ke.1) fun kty => zaj (zjv C kty)
  (ob m.asMap fun b => zaj (!Nat.blt b C.base) (ob (zee H b) fun l => zaj (zfj C kty k) (ob (zd1 k v l) fun l' => some (zbh, setBlk H b (.map l')))))
def zda (C : Ctx) (t : Nat) (l c : zab) (H : zaf) : Option (zab × zaf) :=
 ob (C.tys.get t) fun ty => ob ty.desc.asSlice fun el => ob (C.tys.get el) fun et => ob l.asNat fun l => ob c.asNat fun c =>
  zaj (Nat.ble l c && Nat.blt c 1000000 && Nat.blt (c * et.bytes) 1000000000 && Nat.beq (zbw et.zero) et.size) (some (.slice H.next 0 l c, za0 H (zvx et.zero c) none))
def zu9 (C : Ctx) (s d : Nat) (v : zab) (H : zaf) : Option (zab × zaf) :=
 ob (C.tys.get s) fun _ => ob (C.tys.get d) fun ty => ob ty.desc.asSlice fun el => ob (C.tys.get el) fun et => ob et.desc.asInt fun k => zaj (kEq k .u8) (ob v.asStr fun l =>
  some (.slice H.next 0 (zbw l) (zbw l), za0 H (zfm l) (some (.ty el))))
def zci (C : Ctx) (t u : Nat) (a b : zab) (H : zaf) : Option (zab × zaf) := ob (C.tys.get t) fun ty => ob (C.tys.get u) fun uty => zaj (!Nat.beq uty.desc.tag 1) (zjl C H ty a b)
def vNext (v : zab) (H : zaf) : Option (zab × zaf) := ob v.asPtr fun p => zaj (Nat.beq p.2 0) (ob (ob (H.t.get p.1) zak.asIter) fun x =>
 match zd8 x.1 x.2 with
 | some c => zaj (Nat.blt c 128) (some (.tup [.bool true, .int .i64 (.ofNat x.2), .int .i32 (.ofNat c)], setBlk H p.1 (.siter x.1 (x.2 + 1))))
 | none => some (.tup [.bool false], H))
structure zpr where
 b : Nat -> Bool
 i : Nat -> Int
 s : Nat -> List Nat
 v : Nat -> zab
inductive T where
 | ret (v : zab)
 | fail
 | ite (b : Bool) (x y : T)
 | opt (x : Option zab) (K : zab -> T)
 | light (x : Tr zak -> Option zab) (K : zab -> T)
 | heavy (x : zaf -> Option (zab × zaf)) (K : zab -> T)
 | call (f : Nat) (args : List zab) (K : zab -> T)
 | callv (f : zab) (args : List zab) (K : zab -> T)
 | asI (k : IntKind) (v : zab) (K : Int -> T)
 | asB (v : zab) (K : Bool -> T)
 | asS (v : zab) (K : List Nat -> T)
 | asG (zs : List zab) (v : zab) (K : zpr -> T)
 | jump (i : Nat) (vals : List zab)
 | range (np : Nat -> Bool) (f : zab) (i m : Nat) (vals : List zab) (K R : T)
def yo : Nat := 1099511627776
def zzac (z : zab) (X : zpr) (j : Nat) : zab :=
 match z with
 | .bool _ => .bool (X.b j)
 | .int k _ => .int k (X.i j)
 | .str _ => .str (X.s j)
 | _ => X.v j
def zg8 (zs : List zab) (X : zpr) : Nat -> List zab :=
 List.rec (motive := fun _ => Nat -> List zab) (fun _ => []) (fun z _ g j => zzac z X j :: g (j + 1)) zs
def zu2 (l : List zab) (j : Nat) : Bool := match l[j]? with | some (.bool b) => b | _ => false
def zzjy (l : List zab) (j : Nat) : Int := match l[j]? with | some (.int _ n) => n | _ => 0
def strAt (l : List zab) (j : Nat) : List Nat := match l[j]? with | some (.str s) => s | _ => []
def z7w (l : List zab) (j : Nat) : zab := match l[j]? with | some v => v | _ => .nilptr
def cellsOf (l : List zab) : zpr := ⟨zu2 l, zzjy l, strAt l, z7w l⟩
def zzft (z a : zab) : Bool :=
 match z with
 | .bool _ => Nat.beq a.tag 0
 | .int k _ => match a.asIntK with | some p => kEq p.1 k | none => false
 | .str _ => Nat.beq a.tag 2
 | .nilptr => Nat.beq a.tag 3 || Nat.beq a.tag 4
 | .nilslice => Nat.beq a.tag 5 || Nat.beq a.tag 6
 | .nilmap => Nat.beq a.tag 7 || Nat.beq a.tag 8
 | .nilfunc => Nat.beq a.tag 10 || Nat.beq a.tag 9
 | .niliface => Nat.beq a.tag 12 || Nat.beq a.tag 11
 | _ => false
def zl4 : List zab -> List zab -> Bool
 | [], [] => true
 | z :: zs, a :: l => zzft z a && zl4 zs l
 | _, _ => false
structure TSt where
 tm : Tm
 ad : List (Nat × Nat × Nat)
 lo : Tr (List zab)
 lit : List Nat
abbrev KT := TSt -> T
structure KtT where
 norm : KT
 exit : Nat -> KT
 ret : KT
def obT {α : Type} (x : Option α) (K : α -> T) : T := Option.rec (motive := fun _ => T) .fail K x
def gdT (b : Bool) (K : T) : T := Bool.rec (motive := fun _ => T) .fail K b
def zge (i : Nat) (l : List (Nat × Nat × Nat)) : Option (Nat × Nat) :=
 List.rec (motive := fun _ => Option (Nat × Nat)) none (fun a _ g => Bool.rec (motive := fun _ => Option (Nat × Nat)) g (some a.2) (Nat.beq i a.1)) l
inductive zw7 where
 | now (ad : List (Nat × Nat × Nat))
 | mixed (ad old : List (Nat × Nat × Nat)) (olds names : List Nat)
def tAd (e : zw7) (t : Nat) : Option (Nat × Nat) :=
 match e with
 | .now ad => zge t ad
 | .mixed ad old olds names => bif zck t names then zge t (bif zck t olds then old else ad) else none
def xAd (e : zw7) (x : Operand) : Option (Nat × Nat) :=
 match x with
 | .tmp t => tAd e t
 | _ => none
def H0A : zaf := ⟨0, .leaf⟩
def zla (C : Ctx) (t : Nat) : Nat :=
 match C.tys.get t with
 | some ty => ty.desc.tag
 | none => 10
def zwf (x : Operand) : Bool :=
 match x with
 | .const _ => true
 | _ => false
def zzck (x : Operand) : Bool :=
 match x with
 | .const (.int _ n) => !iEq n 0
 | _ => false
def binDir (C : Ctx) (op : BinOp) (t : Nat) (y : Operand) : Bool :=
 match op with
 | .add => Nat.beq (zla C t) 1
 | .sub => true
 | .mul => true
 | .quo => zzck y
 | .rem => zzck y
 | .shl => zwf y
 | .shr => zwf y
 | .eql => Nat.ble (zla C t) 2
 | .neq => Nat.ble (zla C t) 2
 | .lss => Nat.ble (zla C t) 2
 | .leq => Nat.ble (zla C t) 2
 | .gtr => Nat.ble (zla C t) 2
 | .geq => Nat.ble (zla C t) 2
 | _ => false
structure KOp where
 K : zab -> T
 Kd : zab -> T
 KA : Nat -> Nat -> T
def z23 (C : Ctx) (op : Op) (e : Env) (k : KOp) : T := obT ((zbx op).f C e H0A) k.Kd
def zzdt (C : Ctx) (op : Op) (x : Operand) (e : Env) (ae : zw7) (k : KOp) : T :=
 match xAd ae x with
 | some p => k.KA p.1 p.2
 | none => z23 C op e k
def tLoad (C : Ctx) (t : Nat) (a : Operand) (e : Env) (ae : zw7) (lo : Tr (List zab)) (k : KOp) : T :=
 match xAd ae a with
 | some p => obT (lo.get p.1) fun l => obT (C.tys.get t) fun ty => gdT (Nat.ble (p.2 + ty.size) (zbw l)) (obT (zlx C t l p.2) k.Kd)
 | none => obT (ev a e) fun v => .light (fun m => zau C t ⟨0, m⟩ v) k.K
def ztv (C : Ctx) (s : Nat) (x : Operand) (f : Nat) (e : Env) (ae : zw7) (k : KOp) : T :=
 match xAd ae x with
 | some p => obT (zg2 C s f) fun o => k.KA p.1 (p.2 + o)
 | none => obT (ev x e) fun v => .opt (za4 C s f v) k.K
def ztu (C : Ctx) (t : Nat) (x i : Operand) (e : Env) (ae : zw7) (k : KOp) : T :=
 match xAd ae x with
 | some p => obT (ev i e) fun i => obT i.asNat fun i => obT (z2v C t i) fun o => k.KA p.1 (p.2 + o)
 | none => obT (ev x e) fun v => obT (ev i e) fun i => .opt (zah C t v i) k.K
def tNil (x : Operand) (e : Env) (ae : zw7) (k : KOp) : T :=
 match xAd ae x with
 | some p => k.KA p.1 p.2
 | none => obT (ev x e) fun v => .opt (z2u v) k.K
def tLen (C : Ctx) (c : Call) (e : Env) (k : KOp) : T :=
 obT (zd8 c.argTypes.toList 0) fun t => obT (zd8 c.args.toList 0) fun x => obT (ev x e) fun v =>
  bif Nat.beq (zla C t) 4 then .opt (zbm v) k.K else bif Nat.beq (zla C t) 6 then .light (fun m => z7j C t ⟨0, m⟩ v) k.K else obT (z7j C t H0A v) k.Kd
def tBin (C : Ctx) (op : BinOp) (t : Nat) (x y : Operand) (u : Nat) (e : Env) (k : KOp) : T :=
 bif binDir C op t y then z23 C (.binOp op t x y u) e k else obT (ev x e) fun a => obT (ev y e) fun b => .opt ((binA op).f C t x y a b) k.K
def zziu (C : Ctx) (s d : Nat) (x : Operand) (e : Env) (k : KOp) : T :=
 bif Nat.beq (zla C d) 2 then (bif Nat.beq (zla C s) 2 then z23 C (.convert s d x) e k else obT (ev x e) fun v => .light (fun m => zk1 C s d ⟨0, m⟩ v) k.K) else bif Nat.beq (zla C d) 1 then z23 C (.convert s d x) e k else .fail
def zzgw (C : Ctx) (t : Nat) (x : Operand) (lo hi : Option Operand) (e : Env) (k : KOp) : T :=
 obT (ev x e) fun a => obT (evo lo e) fun l => obT (evo hi e) fun h =>
  bif Nat.beq (zla C t) 2 then .opt (zcu C t H0A a l h) k.K else .light (fun m => zcu C t ⟨0, m⟩ a l h) k.K
def zmf (C : Ctx) (c : Call) (e : Env) (k : KOp) : Builtin -> T
 | .len => tLen C c e k
 | .max => z23 C (.call c) e k
 | .min => z23 C (.call c) e k
 | _ => .fail
def zux (ty : ATy) (v : zab) : List zab := bif ty.desc.isAgg then v.cells else [v]
def zzfx (cells : List zab) (off size : Nat) (vc : List zab) : Option (List zab) :=
 zaj (Nat.beq (zbw vc) size && Nat.ble (off + zbw vc) (zbw cells)) (some (ze3 (zth cells off) (ze3 vc (zmu cells (off + zbw vc)))))
def z9w (C : Ctx) (tyAt : Nat -> Option Nat) : List (Nat × zab) -> Option (List (Nat × zab × List zab) × List zab) :=
 List.rec (motive := fun _ => Option (List (Nat × zab × List zab) × List zab)) (some ([], []))
  (fun p _ g => ob (tyAt p.1) fun t => ob (C.tys.get t) fun ty => ob g fun r => some (bif ty.desc.isAgg then ((p.1, p.2, p.2.cells) :: r.1, r.2) else ((p.1, p.2, [p.2]) :: r.1, p.2 :: r.2)))
def zzfy (place : Nat -> Option (Nat × Nat)) : List (Nat × zab × List zab) -> List zab -> Option (List zab) :=
 List.rec (motive := fun _ => List zab -> Option (List zab)) (fun cells => some cells) (fun p _ g cells => ob (place p.1) fun q => ob (zzfx cells q.1 q.2 p.2.2) fun cells => g cells)
def tyAtS (ty : ATy) (i : Nat) : Option Nat :=
 match ty.desc.asStruct with
 | some fs => ob (zd8 fs i) fun x => some x.2.1
 | none => ob ty.desc.asArr fun a => some a.2
def zug (C : Ctx) (ty : ATy) (i : Nat) : Option (Nat × Nat) :=
 match ty.desc.asStruct with
 | some fs => ob (zd8 fs i) fun x => some (x.1, x.2.2)
 | none => ob ty.desc.asArr fun a => ob (C.tys.get a.2) fun et => some (i * et.size, et.size)
def zzk (C : Ctx) (ty : ATy) : Bool :=
 match ty.desc.asStruct with
 | some _ => true
 | none => match ty.desc.asArr with
  | some a => (match C.tys.get a.2 with | some _ => true | none => false)
  | none => false
def zzgy (C : Ctx) (t : Nat) (ps : Array (Nat × Operand)) (e : Env) (k : KOp) : T :=
 obT (C.tys.get t) fun ty => gdT (zzk C ty) <| obT (evp ps.toList e) fun vs => obT (z9w C (tyAtS ty) vs) fun q => obT (zzfy (zug C ty) q.1 ty.zero) fun l => .ite (zd9 zab.one q.2) (k.Kd (.agg l)) .fail
def tL (C : Ctx) (op : Op) (e : Env) (ae : zw7) (lo : Tr (List zab)) (k : KOp) : T :=
 match op with
 | .move x => zzdt C (.move x) x e ae k
 | .assign x => zzdt C (.assign x) x e ae k
 | .load t a => tLoad C t a e ae lo k
 | .fieldAddr s x f => ztv C s x f e ae k
 | .indexAddr t x i => ztu C t x i e ae k
 | .nilCheck x => tNil x e ae k
 | .binOp op t x y u => tBin C op t x y u e k
 | .convert s d x => zziu C s d x e k
 | .slice t x lo hi none => zzgw C t x lo hi e k
 | .index t x i => bif zwf i && Nat.beq (zla C t) 5 then z23 C (.index t x i) e k else obT (ev x e) fun v => obT (ev i e) fun i => .opt (zmb C t v i) k.K
 | .extract t i => obT (ev t e) fun v => .opt (zar i v) k.K
 | .typeAssert x _ u ok => obT (ev x e) fun v => .opt (z0f C u ok v) k.K
 | .lookup t x i ok => obT (ev x e) fun m => obT (ev i e) fun key => .light (fun h => zh6 C t ⟨0, h⟩ m key ok) k.K
 | .call c => match c.callee with
  | .builtin b => zmf C c e k b
  | _ => .fail
 | .pick c a b => z23 C (.pick c a b) e k
 | .unOp o t x => (match o with
  | .xor => obT (ev x e) fun v => .opt (z0h v) k.K
  | o => z23 C (.unOp o t x) e k)
 | .makeInterface t x => z23 C (.makeInterface t x) e k
 | .makeFunc fn a b => z23 C (.makeFunc fn a b) e k
 | .field t x f => z23 C (.field t x f) e k
 | .build t ps => zzgy C t ps e k
 | _ => .fail
def laOf (la : List Nat) (dst : Option Nat) : Option Nat :=
 match dst with
 | some d => bif zck d la then some d else none
 | none => none
structure KLo where
 new : Nat -> List zab -> T
 set : Nat -> List zab -> T
def zzgx (f : Operand) (args : Array Operand) (e : Env) (k : KOp) : T :=
 match f with
 | .func g => gdT (Nat.blt g yo) (obT (evs args.toList e) fun as => .call g as k.K)
 | f => obT (ev f e) fun fv => obT (evs args.toList e) fun as => .callv fv as k.K
def two' (c : Call) (e : Env) (K : zab -> zab -> T) : T := obT (two c e) fun p => K p.1 p.2
def zxo (C : Ctx) (c : Call) (e : Env) (k : KOp) : Builtin -> T
 | .append => obT (zd8 c.argTypes.toList 0) fun t => obT (zd8 c.argTypes.toList 1) fun u => two' c e fun a b => .heavy (zci C t u a b) k.K
 | b => zmf C c e k b
def zzgv (C : Ctx) (t : Nat) (a x : Operand) (e : Env) (ae : zw7) (lo : Tr (List zab)) (k : KOp) (kl : KLo) : T :=
 match xAd ae a with
 | some p => obT (ev x e) fun v => obT (C.tys.get t) fun ty => obT (lo.get p.1) fun l => obT (zzfx l p.2 ty.size (zux ty v)) fun l' => .ite (zd9 zab.one (zux ty v)) (kl.set p.1 l') .fail
 | none => obT (ev a e) fun a => obT (ev x e) fun v => .heavy (zbl C t a v) k.Kd
def tH (C : Ctx) (la : List Nat) (dst : Option Nat) (op : Op) (e : Env) (ae : zw7) (lo : Tr (List zab)) (k : KOp) (kl : KLo) : T :=
 match op with
 | .box t x => bif zcm (zh7 C t) then obT (ev x e) fun v => (match laOf la dst with
  | some d => obT (C.tys.get t) fun ty => bif ty.desc.isAgg then kl.new d v.cells else .ite (zab.one v) (kl.new d [v]) .fail
  | none => .heavy (z0e v) k.K) else obT (ev x e) fun v => .heavy (zzil C t v) k.K
 | .alloc t => bif zcm (zh7 C t) then (match laOf la dst with
  | some d => obT (C.tys.get t) fun ty => kl.new d ty.zero
  | none => .heavy (zjq C t) k.K) else .heavy (zlp C t) k.K
 | .store t a x => zzgv C t a x e ae lo k kl
 | .buildSlice t len ps => obT (evp ps.toList e) fun ps => .heavy (za5 C t len ps) k.K
 | .makeMap _ none => .heavy zpu k.K
 | .insert t m key x => obT (ev m e) fun m => obT (ev key e) fun key => obT (ev x e) fun v => .heavy (zfr C t m key v) k.Kd
 | .mapUpdate t m key x => obT (ev m e) fun m => obT (ev key e) fun key => obT (ev x e) fun v => .heavy (zfr C t m key v) k.Kd
 | .makeSlice t l c => obT (ev l e) fun l => obT (ev c e) fun c => .heavy (zda C t l c) k.K
 | .convert s d x => bif Nat.beq (zla C d) 4 then obT (ev x e) fun v => .heavy (zu9 C s d v) k.K else zziu C s d x e k
 | .call c => match c.callee with
  | .value f => zzgx f c.args e k
  | .builtin b => zxo C c e k b
  | _ => .fail
 | op => tL C op e ae lo k
def rmNat (i : Nat) (l : List Nat) : List Nat := List.rec (motive := fun _ => List Nat) [] (fun j _ g => bif Nat.beq i j then g else j :: g) l
def z21 (n : Nat) (dst : Option Nat) (v : zab) (lt : Bool) (st : TSt) (κ : KT) : T :=
 match dst with
 | none => κ st
 | some d => bif Nat.blt d n then gdT (zcm (zge d st.ad)) (κ ⟨st.tm.set d v, st.ad, st.lo, bif lt then d :: rmNat d st.lit else rmNat d st.lit⟩) else κ st
def zzir (n : Nat) (dst : Option Nat) (d off : Nat) (st : TSt) (κ : KT) : T :=
 obT dst fun i => gdT (Nat.blt i n) (gdT (zcm (st.tm.get i)) (κ ⟨st.tm, (i, d, off) :: st.ad, st.lo, st.lit⟩))
def zzhg (d : Nat) (ad : List (Nat × Nat × Nat)) : Bool := zd9 (fun a => bif Nat.beq a.2.1 d then Nat.beq a.1 d else true) ad
def tNew (n : Nat) (d : Nat) (l : List zab) (st : TSt) (κ : KT) : T :=
 gdT (Nat.blt d n) (gdT (zcm (st.tm.get d)) (gdT (zzhg d st.ad) (κ ⟨st.tm, (d, d, 0) :: st.ad, st.lo.set d l, st.lit⟩)))
def fitB (C : Ctx) (t : Nat) (v : zab) : Bool :=
 match C.tys.get t with
 | some ty => (match ty.desc with
  | .bool => Nat.beq v.tag 0
  | .int k => (match v.asIntK with | some p => kEq p.1 k | none => false)
  | .string => Nat.beq v.tag 2
  | _ => true)
 | none => true
def z8m (C : Ctx) (t : Nat) (v : zab) (K : zab -> T) : T :=
 match C.tys.get t with
 | some ty => (match ty.desc with
  | .bool => .asB v fun b => K (.bool b)
  | .int k => .asI k v fun n => K (.int k n)
  | .string => .asS v fun s => K (.str s)
  | .struct _ => bif Nat.ble (zbw ty.zero) 40 then .asG ty.zero v fun X => K (.agg (zg8 ty.zero X 0)) else K v
  | .arr _ _ => bif Nat.ble (zbw ty.zero) 40 then .asG ty.zero v fun X => K (.agg (zg8 ty.zero X 0)) else K v
  | _ => K v)
 | none => K v
def zzhh (x : Operand) (lit : List Nat) : Bool :=
 match x with
 | .tmp t => lit.contains t
 | .const _ => true
 | _ => false
def zzex (op : Op) (e : Env) (lit : List Nat) : Bool :=
 match op with
 | .move x => zzhh x lit
 | .assign x => zzhh x lit
 | .unOp _ _ x => zzhh x lit
 | .pick c a b => bif zzhh c lit then (match ob (ev c e) zab.asBool with
  | some w => bif w then zzhh a lit else zzhh b lit
  | none => false) else false
 | _ => false
def zwe (all : List Oper) (dst : Option Nat) (l : List Oper) : Bool :=
 match dst with
 | none => false
 | some d => !zd9 (fun o => match o.guard with
  | some g => (match ob (zd8 all g.1) fun p => p.dst with | some i => !Nat.beq i d | none => true)
  | none => true) l
def ztt (g lt : Bool) (v : zab) (K : zab -> Bool -> T) : T :=
 bif g then (bif lt then K v true else obT v.asBool fun b => .ite b (K (.bool true) true) (K (.bool false) true)) else K v lt
def kop (C : Ctx) (all : Array Oper) (n : Nat) (o : Oper) (e : Env) (st : TSt) (κ : KT) : KOp :=
 ⟨fun v => z8m C o.type v fun v => ztt (zwe all.toList o.dst all.toList) (zzex o.op e st.lit) v fun v lt => z21 n o.dst v lt st κ,
  fun v => gdT (fitB C o.type v) (ztt (zwe all.toList o.dst all.toList) (zzex o.op e st.lit) v fun v lt => z21 n o.dst v lt st κ),
  fun d off => gdT (!Nat.ble (zla C o.type) 2) (zzir n o.dst d off st κ)⟩
def klo (C : Ctx) (n : Nat) (o : Oper) (st : TSt) (κ : KT) : KLo :=
 ⟨fun d l => gdT (!Nat.ble (zla C o.type) 2) (tNew n d l st κ),
  fun d l => gdT (fitB C o.type zbh) (z21 n o.dst zbh false ⟨st.tm, st.ad, st.lo.set d l, st.lit⟩ κ)⟩
def Env.adCut (k : Nat) (l : List (Nat × Nat × Nat)) : List (Nat × Nat × Nat) := l.filter fun a => Nat.blt a.1 k
def TSt.cut (st : TSt) : TSt := ⟨st.tm.cut, Env.adCut st.tm.k st.ad, st.lo, st.lit⟩
def tops (C : Ctx) (la : List Nat) (all : Array Oper) (n : Nat) (κ : KT) (l : List Oper) : KT :=
 List.rec (motive := fun _ => KT) κ
  (fun o _ g st => obT (zbb o.guard all st.tm) fun w => Bool.rec (motive := fun _ => T) (z21 n o.dst zbh false st g)
   (tH C la o.dst o.op (.now st.tm) (.now st.ad) st.lo (kop C all n o (.now st.tm) st g) (klo C n o st g)) w) l
def z1g (st old : TSt) (olds : List Nat) (op : Op) : Env := .mixed st.tm old.tm olds (zbt op)
def zzes (st old : TSt) (olds : List Nat) (op : Op) : zw7 := .mixed st.ad old.ad olds (zbt op)
def zft (C : Ctx) (all : Array Oper) (n : Nat) (old : TSt) (olds : List (Nat × List Nat)) (κ : KT) (l : List Nat) : KT :=
 List.rec (motive := fun _ => KT) κ
  (fun i _ g st => obT (zd8 all.toList i) fun o => obT (zbb o.guard all st.tm) fun w => Bool.rec (motive := fun _ => T) (z21 n o.dst zbh false st g)
   (tL C o.op (z1g st old (zcq i olds) o.op) (zzes st old (zcq i olds) o.op) st.lo (kop C all n o (z1g st old (zcq i olds) o.op) st g)) w) l
def zk8 (C : Ctx) (all : Array Oper) (old : TSt) (olds : List (Nat × List Nat)) (st : TSt) (k : T) (l : List Nat) : T :=
 List.rec (motive := fun _ => T) k
  (fun i _ g => obT (zd8 all.toList i) fun o => obT o.dst fun d => obT (zbb o.guard all st.tm) fun w => Bool.rec (motive := fun _ => T) g
   (obT (st.tm.get d) fun u => gdT (fitB C o.type u) (tL C o.op (z1g st old (zcq i olds) o.op) (zzes st old (zcq i olds) o.op) st.lo ⟨fun v => .ite (same 10 v u) g .fail, fun v => .ite (same 10 v u) g .fail, fun _ _ => .fail⟩)) w) l
def zts (C : Ctx) (es : List Eff) (H : zaf) : Option (zab × zaf) := ob (zm3 C es H) fun H' => some (zbh, H')
def tEff (op : Op) (e : Env) (ae : zw7) : Option Eff :=
 match op with
 | .store t a x => (match xAd ae a with
  | some _ => none
  | none => zsh (.store t a x) e)
 | op => zsh op e
def zzdv (all : Array Oper) (old : TSt) (olds : List (Nat × List Nat)) (st : TSt) (l : List Nat) : Option (List Eff) :=
 zd4 (fun i => ob (zd8 all.toList i) fun o => ob (zbb o.guard all st.tm) fun w => zaj w (tEff o.op (z1g st old (zcq i olds) o.op) (zzes st old (zcq i olds) o.op))) l
def zj0 (C : Ctx) (all : Array Oper) (n : Nat) (old : TSt) (olds : List (Nat × List Nat)) (κ : KT) (l : List zcz) : KT :=
 List.rec (motive := fun _ => KT) κ
  (fun s _ g st => Bool.rec (motive := fun _ => T) (obT (zd8 all.toList (hvI all s.heavy)) fun o => obT (zg0 C all s.heavy o st.tm) fun w =>
   (fun cont : KT => Bool.rec (motive := fun _ => T) (z21 n o.dst zbh false st cont)
    (tH C [] o.dst o.op (z1g st old (zcq (hvI all s.heavy) olds) o.op) (zzes st old (zcq (hvI all s.heavy) olds) o.op) st.lo (kop C all n o (z1g st old (zcq (hvI all s.heavy) olds) o.op) st cont) (klo C n o st cont)) w)
   (fun st' => zk8 C all old olds st' (zft C all n old olds g s.lights st') s.again))
   (gdT (zle C all) (obT (zzdv all old olds st s.again) fun es => .heavy (zts C es) fun _ => zft C all n old olds g s.lights st)) (zgg all s)) l
def z8e (C : Ctx) (la : List Nat) (fn n : Nat) (κ : KT) (id : Nat) (all : Array Oper) (draw : Bool) : KT :=
 Bool.rec (motive := fun _ => KT) (fun st => tops C la all n κ all.toList st.cut)
  (fun st => obT (ob (C.plans.get fn) fun t => t.get id) fun p => gdT (zjt all p) (zft C all n st.cut p.olds (zj0 C all n st.cut p.olds κ p.stages) p.first st.cut)) draw
def ztq (st : TSt) (ll : List (Nat × Nat)) : Option (List zab) :=
 List.rec (motive := fun _ => Option (List zab)) (some []) (fun p _ g => ob (zge p.1 st.ad) fun a => zaj (Nat.beq a.1 p.1 && Nat.beq a.2 0) (ob (st.lo.get p.1) fun l => zaj (Nat.beq (zbw l) p.2) (ob g fun r => some (ze3 l r)))) ll
def ztp (p : PI) (st : TSt) : Option (List zab) := ob (zd4 (fun i => st.tm.get i) p.pl) fun a => ob (ztq st p.ll) fun b => some (ze3 a b)
def zzdh (ll : List (Nat × Nat)) : List zab -> Tr (List zab) :=
 List.rec (motive := fun _ => List zab -> Tr (List zab)) (fun _ => .leaf) (fun p _ g vals => (g (zmu vals p.2)).set p.1 (zth vals p.2)) ll
def zzw (pl : List Nat) : List zab -> Tr zab :=
 List.rec (motive := fun _ => List zab -> Tr zab) (fun _ => .leaf) (fun i _ g vals => List.rec (motive := fun _ => Tr zab) .leaf (fun v vals _ => (g vals).set i v) vals) pl
def stAd (ll : List (Nat × Nat)) : List (Nat × Nat × Nat) := List.rec (motive := fun _ => List (Nat × Nat × Nat)) [] (fun p _ g => (p.1, p.1, 0) :: g) ll
def z7k (k : Nat) (p : PI) (vals : List zab) : TSt := ⟨⟨k, zzw p.pl vals, []⟩, stAd p.ll, zzdh p.ll (zmu vals (zbw p.pl)), []⟩
def npC (C : Ctx) (g : Nat) : Bool := zcm (C.prims.get g)
def zzg9 (pl : List Nat) (st : TSt) : Option (List zab) := zd4 (fun i => st.tm.get i) pl
def z9n (k n : Nat) (pl ps : List Nat) (ops : List Oper) (c : zcc) : Bool :=
 zd9 (fun p => Nat.blt p k && Nat.blt p n && !zck p pl) ps && Nat.ble (zbw ps) 1 && zmm ops && (match zej c with | [] => true | _ => false)
def rdT : KtT := ⟨fun _ => .ret (.bool true), fun _ _ => .fail, fun _ => .ret (.bool false)⟩
def z9m (C : Ctx) (n : Nat) (κ : KtT) (i : Nat) (pl : List Nat) (f : Operand) (ps : List Nat) (ops : List Oper) (c : zcc) (st : TSt) : T :=
 gdT (z9n st.tm.k n pl ps ops c) (obT (zzg9 pl st) fun vals => obT (ev f (.now st.tm)) fun fv => .range (npC C) fv i (zbw ps) vals (κ.norm st) (κ.ret st))
def z0i (C : Ctx) (la : List Nat) (fn n : Nat) (c : zcc) : KtT -> KT :=
 zcc.rec (motive := fun _ => KtT -> KT)
  (fun κ st => κ.norm st)
  (fun id all draw κ => z8e C la fn n κ.norm id all draw)
  (fun _ _ ga gb κ => ga ⟨gb κ, κ.exit, κ.ret⟩)
  (fun c _ _ gx gy κ st => obT (ob (ev c (.now st.tm)) zab.asBool) fun b => bif zzhh c st.lit then Bool.rec (motive := fun _ => T) (gy κ st) (gx κ st) b else .ite b (gx κ st) (gy κ st))
  (fun id _ g κ => g ⟨κ.norm, fun i st => Bool.rec (motive := fun _ => T) (κ.exit i st) (κ.norm st) (Nat.beq id i), κ.ret⟩)
  (fun p _ _ _ st => obT (ztp p st) fun vals => .jump p.id vals)
  (fun id κ st => κ.exit id st)
  (fun κ st => κ.ret st)
  (fun p _ _ _ st => obT (ztp p st) fun vals => .jump p.id vals)
  (fun i pl f ps _ ops c _ κ st => z9m C n κ i pl f ps.toList ops.toList c st) c
structure PtT where
 p : PI
 tree : List zab -> T
def z6a (p : PI) : KT := fun st => obT (ztp p st) fun vals => .jump p.id vals
def zj4 (C : Ctx) (la : List Nat) (fn n k : Nat) (c : zcc) : KtT -> List PtT :=
 zcc.rec (motive := fun _ => KtT -> List PtT)
  (fun _ => [])
  (fun _ _ _ _ => [])
  (fun _ b ga gb κ => ze3 (ga ⟨z0i C la fn n b κ, κ.exit, κ.ret⟩) (gb κ))
  (fun _ _ _ gx gy κ => ze3 (gx κ) (gy κ))
  (fun id _ g κ => g ⟨κ.norm, fun i st => Bool.rec (motive := fun _ => T) (κ.exit i st) (κ.norm st) (Nat.beq id i), κ.ret⟩)
  (fun p c g κ => ⟨p, fun vals => z0i C la fn n c ⟨z6a p, κ.exit, κ.ret⟩ (z7k k p vals)⟩ :: g ⟨z6a p, κ.exit, κ.ret⟩)
  (fun _ _ => [])
  (fun _ => [])
  (fun p c g κ => ⟨p, fun vals => z0i C la fn n c κ (z7k k p vals)⟩ :: g κ)
  (fun i pl _ ps id ops c g _ => ⟨⟨i, ze3 pl ps.toList, []⟩, fun vals => z0i C la fn n (.seq (.region id ops false) c) rdT (z7k k ⟨i, ze3 pl ps.toList, []⟩ vals)⟩ :: g rdT) c
def resT (C : Ctx) (st : TSt) (l : List ResultVar) : (List zab -> T) -> T :=
 List.rec (motive := fun _ => (List zab -> T) -> T) (fun K => K [])
  (fun r _ g K => match r with
   | .tmp t => obT (st.tm.get t) fun v => g fun l => K (v :: l)
   | .cell a t => match zge a st.ad with
    | some p => obT (st.lo.get p.1) fun l => obT (C.tys.get t) fun ty => gdT (Nat.ble (p.2 + ty.size) (zbw l)) (obT (zlx C t l p.2) fun v => g fun l => K (v :: l))
    | none => obT (st.tm.get a) fun a => .light (fun m => zau C t ⟨0, m⟩ a) fun v => g fun l => K (v :: l)) l
def endT (C : Ctx) (fn : Func) : KT := fun st => resT C st fn.results.toList fun l => .ret (zlq l)
def topT (C : Ctx) (fn : Func) : KtT := ⟨endT C fn, fun _ _ => .fail, endT C fn⟩
structure zb5 where
 code : zcc
 la : List Nat
def entT (C : Ctx) (fn : Func) (k : Nat) (f : Nat) (A : zb5) (args : List zab) : T := z0i C A.la f fn.ntmps A.code (topT C fn) ⟨⟨k, Tr.ofList args, []⟩, [], .leaf, []⟩
def ptsT (C : Ctx) (fn : Func) (k : Nat) (f : Nat) (A : zb5) : List PtT := zj4 C A.la f fn.ntmps k A.code (topT C fn)
def z9v (l : List PtT) (i : Nat) (vals : List zab) : List T := List.rec (motive := fun _ => List T) [] (fun p _ g => bif Nat.beq p.p.id i then p.tree vals :: g else g) l
end Go.Am
namespace Go.Am
open Go Go.RowKit
def zcf {α : Type} (x : Option α) (P : α -> Prop) : Prop :=
 match x with
 | some a => P a
 | none => False
theorem zfd {α : Type} {x : Option α} {P : α -> Prop} : zcf x P ↔ ∃ a, x = some a /\ P a := by
 cases x with
 | none => simp [zcf]
 | some a => simp [zcf]
@[simp] theorem zaa {α : Type} {a : α} {P : α -> Prop} : zcf (some a) P = P a := rfl
@[simp] theorem optP_none {α : Type} {P : α -> Prop} : zcf (none : Option α) P = False := rfl
abbrev zao := zab -> Tr zak -> Prop
abbrev zhn := Nat -> List zab -> Tr zak -> zao -> Prop
def zzh0 {α : Type} : List α -> Bool | [] => true | _ :: _ => false
def zpq (f : zab) (args : List zab) : Option (Nat × List zab) := ob f.asFunc fun p => match p.1 with
 | .func g => zaj (Nat.blt g yo) (some (g, ze3 (ze3 p.2.1 args) p.2.2))
 | .yld l => zaj (zzh0 p.2.1 && zzh0 p.2.2) (some (yo + l, args))
def zik (np : Nat -> Bool) (f : zab) (l : Nat) : Option (Nat × List zab) := ob f.asFunc fun p => match p.1 with
 | .func g => zaj (Nat.blt g yo && np g) (some (g, ze3 p.2.1 (.func (.yld l) [] [] :: p.2.2)))
 | .yld _ => none
def zzjx (k : IntKind) (v : zab) : Option Int := ob v.asIntK fun p => zaj (kEq p.1 k) (some p.2)
def z7b (zs : List zab) (v : zab) : Option zpr := ob v.asAgg fun l => zaj (zl4 zs l) (some (cellsOf l))
def wpT (base : Nat) (W : zhn) (J : zhn) : T -> Tr zak -> zao -> Prop
 | .ret v, t, Q => Q v t
 | .fail, _, _ => False
 | .ite b x y, t, Q => if b = true then wpT base W J x t Q else wpT base W J y t Q
 | .opt x K, t, Q => zcf x fun v => wpT base W J (K v) t Q
 | .light x K, t, Q => zcf (x t) fun v => wpT base W J (K v) t Q
 | .heavy x K, t, Q => ∀ b, t.get b = none -> base <= b -> zcf (x ⟨b, t⟩) fun p => wpT base W J (K p.1) p.2.t Q
 | .call f args K, t, Q => W f args t fun v t' => wpT base W J (K v) t' Q
 | .callv f args K, t, Q => zcf (zpq f args) fun p => W p.1 p.2 t fun v t' => wpT base W J (K v) t' Q
 | .asI k v K, t, Q => zcf (zzjx k v) fun n => wpT base W J (K n) t Q
 | .asB v K, t, Q => zcf v.asBool fun n => wpT base W J (K n) t Q
 | .asS v K, t, Q => zcf v.asStr fun n => wpT base W J (K n) t Q
 | .asG zs v K, t, Q => zcf (z7b zs v) fun X => wpT base W J (K X) t Q
 | .jump i vals, t, Q => J i vals t Q
 | .range np f i m vals K R, t, Q => 256 <= base /\ ∀ l r, t.get l = none -> base <= l -> r.state = .ready -> r.pending = none →
   (∀ args t1 Q1, args.length = m -> t1.get l = some (.loop r) -> J i (vals ++ args) (t1.del l) (fun v t2 => t2.get l = none -> ∃ b, v = .bool b /\ Q1 v (t2.set l (.loop (zro b r)))) -> W (yo + l) args t1 Q1) →
   zcf (zik np f l) fun p => W p.1 p.2 (t.set l (.loop r)) fun _ t' => (t'.get l = some (.loop r) /\ wpT base W J K (t'.del l) Q) \/ (t'.get l = some (.loop (zro false r)) /\ wpT base W J R (t'.del l) Q)
abbrev Xt := Nat -> Option zak
def XLe (X Y : Xt) : Prop := ∀ b y, X b = some y -> Y b = some y
theorem XLe.refl (X : Xt) : XLe X X := fun _ _ h => h
theorem XLe.trans {X Y Z : Xt} (h : XLe X Y) (k : XLe Y Z) : XLe X Z := fun b y e => k b y (h b y e)
structure Ov (base : Nat) (t : Tr zak) (X : Xt) (H : zaf) : Prop where
 base : base <= H.next
 same : ∀ b, X b = none -> H.t.get b = t.get b
 ext : ∀ b y, X b = some y -> H.t.get b = some y /\ t.get b = none /\ b < H.next
 lt : ∀ b y, t.get b = some y -> b < H.next
def HLe (H H' : zaf) : Prop := ∀ b y, H.t.get b = some y -> H'.t.get b = some y
def zos (e e' : Env) : Prop := ∀ i v, zzdf i e = some v -> zzdf i e' = some v
section
variable {base : Nat} {t : Tr zak} {X : Xt} {H HA : zaf} {e e' : Env} {C : Ctx} {v : zab}
theorem Ov.notX (h : Ov base t X HA) {b : Nat} {y : zak} (hb : t.get b = some y) : X b = none := by
 cases hx : X b with
 | none => rfl
 | some z => have := (h.ext b z hx).2.1; rw [hb] at this; cases this
theorem Ov.up (h : Ov base t X HA) {b : Nat} {y : zak} (hb : t.get b = some y) : HA.t.get b = some y := by rw [h.same b (h.notX hb)]; exact hb
theorem Ov.le (h : Ov base t X HA) {n : Nat} : HLe ⟨n, t⟩ HA := fun _ _ hb => h.up hb
theorem Ov.nextX (h : Ov base t X HA) : X HA.next = none := by
 cases hx : X HA.next with
 | none => rfl
 | some z => exact absurd (h.ext _ z hx).2.2 (Nat.lt_irrefl _)
theorem Ov.nextT (h : Ov base t X HA) : t.get HA.next = none := by
 cases hx : t.get HA.next with
 | none => rfl
 | some z => exact absurd (h.lt _ z hx) (Nat.lt_irrefl _)
theorem zbp (h : HLe H HA) {b : Nat} {p : Tr zab × Nat × Option Lo} (hb : zaq H b = some p) : zaq HA b = some p := by
 unfold zaq at hb ⊢; rw [zad] at hb ⊢; obtain ⟨y, h1, h2⟩ := hb; exact ⟨y, h _ _ h1, h2⟩
theorem ze0 (h : HLe H HA) {b : Nat} {p : List (zab × zab)} (hb : zee H b = some p) : zee HA b = some p := by
 unfold zee at hb ⊢; rw [zad] at hb ⊢; obtain ⟨y, h1, h2⟩ := hb; exact ⟨y, h _ _ h1, h2⟩
theorem zas (h : zos e e') {x : Operand} (hx : ev x e = some v) : ev x e' = some v := by
 cases x with
 | tmp i => exact h i v hx
 | const c => exact hx
 | global g => exact hx
 | func f => exact hx
theorem zwq (h : zos e e') {l : List Operand} {vs : List zab} (hx : evs l e = some vs) : evs l e' = some vs := zko l (fun _ _ k => zas h k) hx
theorem z4i (h : zos e e') {x : Option Operand} {r : Option zab} (hx : evo x e = some r) : evo x e' = some r := by
 cases x with
 | none => exact hx
 | some x =>
  have hx : ob (ev x e) (fun v => some (some v)) = some r := hx
  show ob (ev x e') (fun v => some (some v)) = some r
  rw [zad] at hx ⊢
  obtain ⟨a, h1, h2⟩ := hx
  exact ⟨a, zas h h1, h2⟩
theorem zwr (h : zos e e') {l : List (Nat × Operand)} {vs : List (Nat × zab)} (hx : evp l e = some vs) : evp l e' = some vs :=
 zko l (fun a b k => by rw [zad] at k ⊢; obtain ⟨u, h1, h2⟩ := k; exact ⟨u, zas h h1, h2⟩) hx
theorem zvd (h : zos e e') {c : Call} {p : zab × zab} (hx : two c e = some p) : two c e' = some p := by
 unfold two at hx ⊢
 split at hx
 ·rw [zad] at hx ⊢
  obtain ⟨a, h1, hx⟩ := hx
  refine ⟨a, zas h h1, ?_⟩
  rw [zad] at hx ⊢
  obtain ⟨b, h2, hx⟩ := hx
  exact ⟨b, zas h h2, hx⟩
 ·cases hx
theorem znw (h : HLe H HA) {ty : Nat} {a : zab} (hx : zau C ty H a = some v) : zau C ty HA a = some v := by
 unfold zau at hx ⊢
 simp only [zad] at hx ⊢
 obtain ⟨p, h1, y, h2, c, h3, h4⟩ := hx
 exact ⟨p, h1, y, h2, c, zbp h h3, h4⟩
theorem zom (h : HLe H HA) {s d : ATy} {a : zab} (hx : zna C s d a H = some v) : zna C s d a HA = some v := by
 unfold zna at hx ⊢
 split at hx
 ·rename_i k hk; exact hx
 ·rename_i hk
  rw [zae] at hx ⊢
  refine ⟨hx.1, ?_⟩
  have hx := hx.2
  rw [zal] at hx ⊢
  split at hx
  ·rename_i e; rw [if_pos e]; exact hx
  ·rename_i e
   rw [if_neg e]; simp only [zad, zae] at hx ⊢
   obtain ⟨a1, h1, b1, h2, k1, h3, h4, h5⟩ := hx
   refine ⟨a1, h1, b1, h2, k1, h3, h4, ?_⟩
   unfold zhh at h5 ⊢
   split at h5
   ·simp only [zad] at h5 ⊢
    obtain ⟨c, g1, g2⟩ := h5
    exact ⟨c, zbp h g1, g2⟩
   ·exact h5
theorem z44 (h : HLe H HA) {s d : Nat} {a : zab} (hx : zk1 C s d H a = some v) : zk1 C s d HA a = some v := by
 unfold zk1 at hx ⊢
 simp only [zad] at hx ⊢
 obtain ⟨a1, h1, b1, h2, h3⟩ := hx
 exact ⟨a1, h1, b1, h2, zom h h3⟩
theorem zta (h : HLe H HA) {b size cap l : Nat} {arr : Bool} (hx : zbi H b size cap l arr = true) : zbi HA b size cap l arr = true := by
 unfold zbi at hx ⊢
 cases hc : zaq H b with
 | none => rw [hc] at hx; cases hx
 | some c => rw [hc] at hx; rw [zbp h hc]; exact hx
theorem zlu (h : HLe H HA) {ty : ATy} {a : zab} {l r : Option zab} (hx : zgd C H ty a l r = some v) : zgd C HA ty a l r = some v := by
 have row : ∀ {arr e b off len cap}, zdt C H arr e b off len cap l r = some v -> zdt C HA arr e b off len cap l r = some v := by
  intro arr e b off len cap hx; unfold zdt at hx ⊢
  simp only [zad] at hx ⊢
  obtain ⟨a1, h1, b1, h2, hx⟩ := hx
  refine ⟨a1, h1, b1, h2, ?_⟩
  cases hb : zaq H b with
  | none =>
   have e1 : zcp H b a1.size cap b1.1 arr = false := by unfold zcp; rw [hb]
   have e2 : zbi H b a1.size cap b1.1 arr = false := by unfold zbi; rw [hb]
   rw [e1, e2, Bool.and_false, Bool.and_false] at hx
   cases hx
  | some c =>
   have e1 : zcp HA b a1.size cap b1.1 arr = zcp H b a1.size cap b1.1 arr := by unfold zcp; rw [hb, zbp h hb]
   have e2 : zbi HA b a1.size cap b1.1 arr = zbi H b a1.size cap b1.1 arr := by unfold zbi; rw [hb, zbp h hb]
   rw [e1, e2]; exact hx
 unfold zgd at hx ⊢
 split at hx
 ·exact hx
 ·split at hx
  ·rw [zad] at hx ⊢; obtain ⟨a1, h1, h2⟩ := hx; exact ⟨a1, h1, row h2⟩
  ·split at hx
   ·rw [zad] at hx ⊢; obtain ⟨a1, h1, h2⟩ := hx; exact ⟨a1, h1, row h2⟩
   ·exact hx
theorem z0c (h : HLe H HA) {ty : Nat} {a : zab} {l r : Option zab} (hx : zcu C ty H a l r = some v) : zcu C ty HA a l r = some v := by
 unfold zcu at hx ⊢
 rw [zad] at hx ⊢
 obtain ⟨a1, h1, h2⟩ := hx
 exact ⟨a1, h1, zlu h h2⟩
theorem zoa (h : HLe H HA) {m : zab} {l : List (zab × zab)} (hx : zrj H m = some l) : zrj HA m = some l := by
 unfold zrj at hx ⊢
 split at hx
 ·exact ze0 h hx
 ·exact hx
theorem zxf (h : HLe H HA) {ty : Nat} {m k : zab} {ok : Bool} (hx : zh6 C ty H m k ok = some v) : zh6 C ty HA m k ok = some v := by
 unfold zh6 at hx ⊢
 simp only [zad, zae] at hx ⊢
 obtain ⟨a1, h1, b1, h2, c1, h3, h4, d1, h5, es, h6, h7⟩ := hx
 exact ⟨a1, h1, b1, h2, c1, h3, h4, d1, h5, es, zoa h h6, h7⟩
theorem zrn (h : HLe H HA) {ty : ATy} {a : zab} {n : Nat} (hx : z7l H ty a = some n) : z7l HA ty a = some n := by
 unfold z7l at hx ⊢
 split at hx
 ·exact hx
 ·split at hx
  ·exact hx
  ·split at hx
   ·exact hx
   ·split at hx
    ·rw [zae, zad] at hx ⊢
     obtain ⟨h1, l, h2, h3⟩ := hx
     exact ⟨h1, l, ze0 h h2, h3⟩
    ·exact hx
theorem z7y (h : HLe H HA) {ty : Nat} {a : zab} (hx : z7j C ty H a = some v) : z7j C ty HA a = some v := by
 unfold z7j at hx ⊢
 simp only [zad] at hx ⊢
 obtain ⟨a1, h1, n, h2, h3⟩ := hx
 exact ⟨a1, h1, n, zrn h h2, h3⟩
theorem zzaz {ty : Nat} {a : Operand} : zrr ty a C e H = ob (ev a e) fun v => zau C ty H v := rfl
theorem zza2 {s d : Nat} {x : Operand} {u : zab} (hx : ev x e = some u) : zk3 s d x C e H = zk1 C s d H u := by unfold zk3 zk1; rw [hx]; rfl
theorem zze6 {ty : Nat} {x : Operand} {lo hi : Option Operand} {a : zab} {l r : Option zab} (h1 : ev x e = some a) (h2 : evo lo e = some l) (h3 : evo hi e = some r) : zmw ty x lo hi C e H = zcu C ty H a l r := by unfold zmw zcu; rw [h1, zac, h2, zac, h3, zac]
theorem zo5 {s f : Nat} {x : Operand} {u : zab} (hx : ev x e = some u) : zdn s x f C e H = za4 C s f u := by
 unfold zdn za4 zg2; rw [hx]
 cases C.tys.get s with
 | none => rfl
 | some ty =>
  simp only [zac]
  cases ty.desc.asStruct with
  | none => rfl
  | some fs =>
   simp only [zac]
   cases zd8 fs f with
   | none => rfl
   | some fd => simp only [zac]; cases hb : (!Nat.beq fd.2.2 0) <;> rfl
theorem zo3 {ty : Nat} {x i : Operand} {u w : zab} (hx : ev x e = some u) (hi : ev i e = some w) : zdm ty x i C e H = zah C ty u w := by unfold zdm zah; rw [hx, hi]; rfl
theorem zze9 {ty : Nat} {x i : Operand} {u w : zab} (hx : ev x e = some u) (hi : ev i e = some w) : zj7 ty x i C e H = zmb C ty u w := by unfold zj7 zmb; rw [hx, hi]; rfl
theorem zzhj {x : Operand} {u : zab} (hx : ev x e = some u) : zze7 x C e H = z2u u := by unfold zze7 z2u; rw [hx]; rfl
theorem z58 {x : Operand} {i : Nat} {u : zab} (hx : ev x e = some u) : zfi x i C e H = zar i u := by unfold zfi zar; rw [hx]; rfl
theorem lBin_v {op : BinOp} {ty : Nat} {x y : Operand} {u w : zab} (hx : ev x e = some u) (hy : ev y e = some w) : zza4 op ty x y C e H = (binA op).f C ty x y u w := by unfold zza4; rw [hx, hy]; rfl
theorem zza5 {x : Operand} {a : Nat} {ok : Bool} {u : zab} (hx : ev x e = some u) : zhb x a ok C e H = z0f C a ok u := by
 unfold zhb z0f; rw [hx]; rfl
theorem zzay {ty : Nat} {x i : Operand} {ok : Bool} {m k : zab} (hx : ev x e = some m) (hi : ev i e = some k) : zha ty x i ok C e H = zh6 C ty H m k ok := by unfold zha zh6; rw [hx, hi]; rfl
theorem lLen_v {c : Call} {ty : Nat} {x : Operand} {u : zab} (h1 : zd8 c.argTypes.toList 0 = some ty) (h2 : zd8 c.args.toList 0 = some x) (hx : ev x e = some u) : z1j c C e H = z7j C ty H u := by unfold z1j z7j; rw [h1, zac, h2, zac, hx]; rfl
theorem zzf1 (he : zos e e') {op : Op} (hp : zpn op = true \/ (∃ s d x, op = .convert s d x /\ (zla C d = 1 \/ zla C s = 2)) \/ (∃ c, op = .call c /\ (c.callee = .builtin .max \/ c.callee = .builtin .min))) {H' : zaf} (h : (zbx op).f C e H = some v) : (zbx op).f C e' H' = some v := by
 rcases hp with hp | hp | hp
 ·cases op <;> simp only [zpn] at hp <;> try (cases hp; done)
  case move x => exact zas he h
  case assign x => exact zas he h
  case pick c a b =>
   have h : ob (ev c e) (fun c => ob c.asBool fun c => bif c then ev a e else ev b e) = some v := h
   show ob (ev c e') (fun c => ob c.asBool fun c => bif c then ev a e' else ev b e') = some v
   simp only [zad] at h ⊢
   obtain ⟨u, h1, w, h2, h3⟩ := h
   refine ⟨u, zas he h1, w, h2, ?_⟩
   cases w with
   | true => exact zas he h3
   | false => exact zas he h3
  case nilCheck x =>
   have h : ob (ev x e) (fun u => zaj (Nat.beq u.tag 4 || Nat.beq u.tag 9) (some u)) = some v := h
   show ob (ev x e') (fun u => zaj (Nat.beq u.tag 4 || Nat.beq u.tag 9) (some u)) = some v
   rw [zad] at h ⊢
   obtain ⟨u, h1, h2⟩ := h
   exact ⟨u, zas he h1, h2⟩
  case binOp op t x y u =>
   have h : zza4 op t x y C e H = some v := h
   show zza4 op t x y C e' H' = some v
   unfold zza4 at h ⊢
   simp only [zad] at h ⊢
   obtain ⟨a, h1, b, h2, h3⟩ := h
   exact ⟨a, zas he h1, b, zas he h2, h3⟩
  case unOp op t x =>
   have h : lUn op x C e H = some v := h
   show lUn op x C e' H' = some v
   unfold lUn at h ⊢
   rw [zad] at h ⊢
   obtain ⟨a, h1, h2⟩ := h
   exact ⟨a, zas he h1, h2⟩
  case makeInterface t x =>
   have h : zo4 t x C e H = some v := h
   show zo4 t x C e' H' = some v
   unfold zo4 at h ⊢
   simp only [zad, zae] at h ⊢
   obtain ⟨a, h1, h2, b, h3, h4⟩ := h
   exact ⟨a, h1, h2, b, zas he h3, h4⟩
  case makeFunc fn a b =>
   have h : (zj8 fn a b).f C e H = some v := h
   show (zj8 fn a b).f C e' H' = some v
   unfold zj8 at h ⊢
   split at h
   ·show zza1 _ a b C e' H' = some v
    unfold zza1 at h ⊢
    simp only [zad] at h ⊢
    obtain ⟨x, h1, y, h2, h3⟩ := h
    exact ⟨x, zwq he h1, y, zwq he h2, h3⟩
   ·cases h
  case fieldAddr s x f =>
   have h : zdn s x f C e H = some v := h
   show zdn s x f C e' H' = some v
   unfold zdn at h ⊢
   simp only [zad, zae] at h ⊢
   obtain ⟨a, h1, b, h2, c, h3, h4, u, h5, h6⟩ := h
   exact ⟨a, h1, b, h2, c, h3, h4, u, zas he h5, h6⟩
  case field t x f =>
   have h : zo6 t x f C e H = some v := h
   show zo6 t x f C e' H' = some v
   unfold zo6 at h ⊢
   simp only [zad] at h ⊢
   obtain ⟨a, h1, b, h2, c, h3, u, h5, h6⟩ := h
   exact ⟨a, h1, b, h2, c, h3, u, zas he h5, h6⟩
  case indexAddr t x i =>
   have h : zdm t x i C e H = some v := h
   show zdm t x i C e' H' = some v
   unfold zdm at h ⊢
   simp only [zad] at h ⊢
   obtain ⟨a, h1, b, h2, c, h3, h4⟩ := h
   exact ⟨a, h1, b, zas he h2, c, zas he h3, h4⟩
  case index t x i =>
   have h : zj7 t x i C e H = some v := h
   show zj7 t x i C e' H' = some v
   unfold zj7 at h ⊢
   simp only [zad] at h ⊢
   obtain ⟨a, h1, b, h2, c, h3, h4⟩ := h
   exact ⟨a, h1, b, zas he h2, c, zas he h3, h4⟩
  case extract t i =>
   have h : zfi t i C e H = some v := h
   show zfi t i C e' H' = some v
   unfold zfi at h ⊢
   rw [zad] at h ⊢
   obtain ⟨a, h1, h2⟩ := h
   exact ⟨a, zas he h1, h2⟩
  case build t ps =>
   have h : zlf t ps C e H = some v := h
   show zlf t ps C e' H' = some v
   unfold zlf at h ⊢
   rw [zad] at h ⊢
   obtain ⟨a, h1, h⟩ := h
   refine ⟨a, h1, ?_⟩
   rw [zad] at h ⊢
   obtain ⟨b, h2, h⟩ := h
   exact ⟨b, zwr he h2, h⟩
  case typeAssert x t u ok =>
   have h : zhb x u ok C e H = some v := h
   show zhb x u ok C e' H' = some v
   unfold zhb at h ⊢
   rw [zad] at h ⊢
   obtain ⟨a, h1, h⟩ := h
   refine ⟨a, h1, ?_⟩
   rw [zae] at h ⊢
   refine ⟨h.1, ?_⟩
   have h := h.2
   rw [zad] at h ⊢
   obtain ⟨b, h2, h⟩ := h
   exact ⟨b, zas he h2, h⟩
 ·obtain ⟨s, d, x, rfl, hp⟩ := hp
  have h : zk3 s d x C e H = some v := h
  show zk3 s d x C e' H' = some v
  unfold zk3 at h ⊢
  simp only [zad] at h ⊢
  obtain ⟨u, h1, sy, h2, dy, h3, h4⟩ := h
  refine ⟨u, zas he h1, sy, h2, dy, h3, ?_⟩
  unfold zna at h4 ⊢
  split at h4
  ·exact h4
  ·rename_i hd
   rw [zae] at h4 ⊢
   refine ⟨h4.1, ?_⟩
   have h4 := h4.2
   rw [zal] at h4 ⊢
   split at h4
   ·rename_i e; rw [if_pos e]; exact h4
   ·rename_i e
    exfalso
    rcases hp with hp | hp
    ·unfold zla at hp
     rw [h3] at hp; have hp : dy.desc.tag = 1 := hp
     cases hx : dy.desc <;> rw [hx] at hp hd <;> first
      | (cases hp; done)
      | (cases hd; done)
    ·unfold zla at hp
     rw [h2] at hp; have hp : sy.desc.tag = 2 := hp
     simp only [zad] at h4; obtain ⟨el, h5, _⟩ := h4
     cases hx : sy.desc <;> rw [hx] at hp h5 <;> first
      | (cases hp; done)
      | (cases h5; done)
 ·obtain ⟨c, rfl, hc⟩ := hp
  rcases hc with hc | hc
  ·have h : (zfx c c.callee).f C e H = some v := h
   show (zfx c c.callee).f C e' H' = some v
   rw [hc] at h ⊢
   have h : zzax c C e H = some v := h
   show zzax c C e' H' = some v
   unfold zzax at h ⊢
   rw [zad] at h ⊢
   obtain ⟨p, h1, h2⟩ := h
   exact ⟨p, zvd he h1, h2⟩
  ·have h : (zfx c c.callee).f C e H = some v := h
   show (zfx c c.callee).f C e' H' = some v
   rw [hc] at h ⊢
   have h : zzav c C e H = some v := h
   show zzav c C e' H' = some v
   unfold zzav at h ⊢
   rw [zad] at h ⊢
   obtain ⟨p, h1, h2⟩ := h
   exact ⟨p, zvd he h1, h2⟩
end
end Go.Am
namespace Go.Am
open Go Go.RowKit
section
variable {base : Nat} {t : Tr zak} {X : Xt} {H HA : zaf} {e e' : Env} {C : Ctx} {v : zab}
theorem Ov.newBlk (h : Ov base t X HA) (y : zak) : Ov base (t.set HA.next y) X (newBlk HA y) := by
 refine ⟨Nat.le_succ_of_le h.base, fun b hb => ?_, fun b z hb => ?_, fun b z hb => ?_⟩
 ·show (HA.t.set HA.next y).get b = _
  rw [Tr.get_set, Tr.get_set]; split
  ·rfl
  ·exact h.same b hb
 ·obtain ⟨h1, h2, h3⟩ := h.ext b z hb
  have hne : b ≠ HA.next := Nat.ne_of_lt h3
  refine ⟨?_, ?_, Nat.lt_succ_of_lt h3⟩
  ·show (HA.t.set HA.next y).get b = _
   rw [Tr.get_set, if_neg hne]; exact h1
  ·rw [Tr.get_set, if_neg hne]; exact h2
 ·rw [Tr.get_set] at hb
  show b < HA.next + 1
  split at hb
  ·rename_i e; rw [e]; exact Nat.lt_succ_self _
  ·exact Nat.lt_succ_of_lt (h.lt _ _ hb)
theorem Ov.setBlk (h : Ov base t X HA) {b : Nat} {y : zak} (hb : t.get b = some y) (z : zak) : Ov base (t.set b z) X (setBlk HA b z) := by
 refine ⟨h.base, fun c hc => ?_, fun c u hc => ?_, fun c u hc => ?_⟩
 ·show (HA.t.set b z).get c = _
  rw [Tr.get_set, Tr.get_set]; split
  ·rfl
  ·exact h.same c hc
 ·obtain ⟨h1, h2, h3⟩ := h.ext c u hc
  have hne : c ≠ b := fun e => by rw [e, hb] at h2; cases h2
  refine ⟨?_, ?_, h3⟩
  ·show (HA.t.set b z).get c = _
   rw [Tr.get_set, if_neg hne]; exact h1
  ·rw [Tr.get_set, if_neg hne]; exact h2
 ·rw [Tr.get_set] at hc
  show c < HA.next
  split at hc
  ·rename_i e; rw [e]; exact h.lt _ _ hb
  ·exact h.lt _ _ hc
theorem Ov.delBlk (h : Ov base t X HA) {b : Nat} {y : zak} (hb : t.get b = some y) : Ov base (t.del b) X ⟨HA.next, HA.t.del b⟩ := by
 refine ⟨h.base, fun c hc => ?_, fun c u hc => ?_, fun c u hc => ?_⟩
 ·show (HA.t.del b).get c = _
  rw [Tr.get_del, Tr.get_del]; split
  ·rfl
  ·exact h.same c hc
 ·obtain ⟨h1, h2, h3⟩ := h.ext c u hc
  have hne : c ≠ b := fun e => by rw [e, hb] at h2; cases h2
  refine ⟨?_, ?_, h3⟩
  ·show (HA.t.del b).get c = _
   rw [Tr.get_del, if_neg hne]; exact h1
  ·rw [Tr.get_del, if_neg hne]; exact h2
 ·rw [Tr.get_del] at hc
  show c < HA.next
  split at hc
  ·cases hc
  ·exact h.lt _ _ hc
def z7e (base : Nat) (x : zaf -> Option (zab × zaf)) : Prop := ∀ t X HA v H', Ov base t X HA -> x ⟨HA.next, t⟩ = some (v, H') -> ∃ HA', x HA = some (v, HA') /\ Ov base H'.t X HA'
theorem zms (l : List zab) (lo : Option Lo) (h : Ov base t X HA) : Ov base (za0 ⟨HA.next, t⟩ l lo).t X (za0 HA l lo) := h.newBlk _
theorem z73 {ty : Nat} : z7e base (zjq C ty) := by
 intro t X HA v H' ho h; unfold zjq at h ⊢
 rw [zad] at h; obtain ⟨y, h1, h2⟩ := h
 cases h2; rw [h1]; exact ⟨_, rfl, zms _ _ ho⟩
theorem zzik {u : zab} : z7e base (z0e u) := by
 intro t X HA v H' ho h
 cases h; exact ⟨_, rfl, zms _ _ ho⟩
theorem z47 {ty : Nat} : z7e base (zlp C ty) := by
 intro t X HA v H' ho h; unfold zlp at h ⊢
 rw [zad] at h; obtain ⟨y, h1, h3⟩ := h
 cases h3; rw [h1, zac]; exact ⟨_, rfl, zms _ _ ho⟩
theorem zzdn {ty : Nat} {u : zab} : z7e base (zzil C ty u) := by
 intro t X HA v H' ho h; unfold zzil at h ⊢
 cases h; exact ⟨_, rfl, zms _ _ ho⟩
theorem zs7 {ty n : Nat} {ps : List (Nat × zab)} : z7e base (za5 C ty n ps) := by
 intro t X HA v H' ho h; unfold za5 at h ⊢
 simp only [zad, zae] at h; obtain ⟨a, h1, b, h2, c, h3, h4, l, h5, h6⟩ := h
 cases h6; refine ⟨za0 HA l none, ?_, zms _ _ ho⟩
 simp only [zad, zae]; exact ⟨a, h1, b, h2, c, h3, h4, l, h5, rfl⟩
theorem zqu (ho : Ov base t X HA) {b off : Nat} {l : List zab} {H' : zaf} (h : zem C ⟨HA.next, t⟩ b off l = some H') : ∃ HA', zem C HA b off l = some HA' /\ Ov base H'.t X HA' := by
 unfold zem at h ⊢
 simp only [zad, zae] at h; obtain ⟨h1, c, h2, h3, h4⟩ := h
 cases h4; have h2' := h2
 unfold zaq at h2'; rw [zad] at h2'
 obtain ⟨y, h5, _⟩ := h2'
 refine ⟨_, ?_, ho.setBlk h5 _⟩
 simp only [zad, zae]; exact ⟨h1, c, zbp ho.le h2, h3, rfl⟩
theorem z7x {ty : Nat} {a u : zab} : z7e base (zbl C ty a u) := by
 intro t X HA v H' ho h; unfold zbl at h ⊢
 simp only [zad, zae] at h; obtain ⟨y, h1, p, h2, h3, H1, h4, h5⟩ := h
 cases h5; obtain ⟨HA', h6, h7⟩ := zqu ho h4
 refine ⟨HA', ?_, h7⟩
 simp only [zad, zae]; exact ⟨y, h1, p, h2, h3, HA', h6, rfl⟩
theorem z0d : z7e base zpu := by
 intro t X HA v H' ho h
 cases h; exact ⟨_, rfl, ho.newBlk _⟩
theorem ztr {ty : Nat} {m k u : zab} : z7e base (zfr C ty m k u) := by
 intro t X HA v H' ho h; unfold zfr at h ⊢
 simp only [zad, zae] at h; obtain ⟨a, h1, b, h2, c, h3, h4, d, h5, h6, l, h7, h8, l', h9, h10⟩ := h
 cases h10; have h7' := h7
 unfold zee at h7'; rw [zad] at h7'
 obtain ⟨y, h11, _⟩ := h7'
 refine ⟨_, ?_, ho.setBlk h11 _⟩
 simp only [zad, zae]; exact ⟨a, h1, b, h2, c, h3, h4, d, h5, h6, l, ze0 ho.le h7, h8, l', h9, rfl⟩
theorem zzcz (ho : Ov base t X HA) {e : RE} {H' : zaf} (h : znj C ⟨HA.next, t⟩ e = some H') : ∃ HA', znj C HA e = some HA' /\ Ov base H'.t X HA' /\ HA'.next = HA.next /\ H'.next = HA.next := by
 obtain ⟨x, y, h1, h2, rfl⟩ := zhk.1 h
 exact ⟨setBlk HA e.blk y, zhk.2 ⟨x, y, ho.up h1, h2, rfl⟩, ho.setBlk h1 _, rfl, rfl⟩
theorem zzl : ∀ {l : List RE} {t : Tr zak} {HA : zaf} {H' : zaf}, Ov base t X HA -> zsq C l ⟨HA.next, t⟩ = some H' -> ∃ HA', zsq C l HA = some HA' /\ Ov base H'.t X HA'
 | [], t, HA, H', ho, h => by cases h; exact ⟨HA, rfl, ho⟩
 | e :: l, t, HA, H', ho, h => by
  unfold zsq at h ⊢
  rw [zad] at h; obtain ⟨H1, h1, h⟩ := h
  obtain ⟨HA1, g1, g2, g3, g4⟩ := zzcz ho h1
  rw [g1, zac]; obtain ⟨n1, t1⟩ := H1
  have g4 : n1 = HA.next := g4
  subst g4; rw [<- g3] at h; exact zzl g2 h
theorem z9g (ho : Ov base t X HA) {e : RE} (h : zua C ⟨HA.next, t⟩ e = true) : zua C HA e = true := by
 cases e with
 | st b off l =>
  change (!zcm (zem C ⟨HA.next, t⟩ b off l)) = true at h
  show (!zcm (zem C HA b off l)) = true
  cases hs : zem C ⟨HA.next, t⟩ b off l with
  | none => rw [hs] at h; cases h
  | some H' => obtain ⟨HA', g, _⟩ := zqu ho hs; rw [g]; rfl
 | up b k v =>
  unfold zua at h ⊢
  rw [yac] at h ⊢
  refine ⟨h.1, ?_⟩
  have h2 := h.2
  split at h2
  ·rename_i hm; rw [ze0 ho.le hm]
  ·cases h2
theorem z71 {es : List Eff} : z7e base (zts C es) := by
 intro t X HA v H' ho h; unfold zts zm3 at h ⊢
 simp only [zad, zae, yac] at h; obtain ⟨H1, ⟨rs, h1, ⟨h2, h3⟩, h4⟩, h5⟩ := h
 cases h5; obtain ⟨HA', g1, g2⟩ := zzl ho h4
 refine ⟨HA', ?_, g2⟩
 simp only [zad, zae, yac]; refine ⟨HA', ⟨rs, h1, ⟨h2, ?_⟩, g1⟩, rfl⟩
 rw [zc3, ybc] at h3 ⊢
 exact fun e he => z9g ho (h3 e he)
theorem zva {ty : Nat} {l c : zab} : z7e base (zda C ty l c) := by
 intro t X HA v H' ho h; unfold zda at h ⊢
 simp only [zad, zae] at h; obtain ⟨a, h1, b, h2, d, h3, n, h4, m, h5, h6, h7⟩ := h
 cases h7; refine ⟨za0 HA (zvx d.zero m) none, ?_, zms _ _ ho⟩
 simp only [zad, zae]; exact ⟨a, h1, b, h2, d, h3, n, h4, m, h5, h6, rfl⟩
theorem z0b {s d : Nat} {u : zab} : z7e base (zu9 C s d u) := by
 intro t X HA v H' ho h; unfold zu9 at h ⊢
 simp only [zad, zae] at h; obtain ⟨a, h1, b, h2, c, h3, et, h4, k, h5, h6, l, h7, h8⟩ := h
 cases h8; refine ⟨za0 HA (zfm l) (some (.ty c)), ?_, zms _ _ ho⟩
 simp only [zad, zae]; exact ⟨a, h1, b, h2, c, h3, et, h4, k, h5, h6, l, h7, rfl⟩
theorem z1s (h : HLe H HA) {sz n : Nat} {u : zab} {l : List zab} (hx : zjx H sz n u = some l) : zjx HA sz n u = some l := by
 unfold zjx at hx ⊢
 split at hx
 ·rw [zad] at hx ⊢
  obtain ⟨c, h1, h2⟩ := hx
  exact ⟨c, zbp h h1, h2⟩
 ·exact hx
theorem z68 (ho : Ov base t X HA) {ty : ATy} {a b : zab} {H' : zaf} (h : zjl C ⟨HA.next, t⟩ ty a b = some (v, H')) : ∃ HA', zjl C HA ty a b = some (v, HA') /\ Ov base H'.t X HA' := by
 unfold zjl at h; simp only [zad] at h; obtain ⟨el, h1, et, h2, n, h3, new, h4, h5⟩ := h
 have h4' := z1s ho.le h4
 suffices hs : ∃ HA', (match a.asSlice with
  | some s => bif Nat.ble (s.2.2.1 + n) s.2.2.2 then zhz C HA et n new s else zja C HA el et n new s
  | none => zaj (Nat.beq a.tag 5) (zgh HA el et n new)) = some (v, HA') /\ Ov base H'.t X HA' by
  obtain ⟨HA', g1, g2⟩ := hs
  refine ⟨HA', ?_, g2⟩
  unfold zjl; simp only [zad]; exact ⟨el, h1, et, h2, n, h3, new, h4', g1⟩
 cases hs : a.asSlice with
 | some s =>
  rw [hs] at h5; simp only [] at h5 ⊢
  rw [zal] at h5; split at h5
  ·rename_i hr
   simp only [hr, cond_true]; unfold zhz at h5 ⊢
   split at h5
   ·cases h5; exact ⟨HA, rfl, ho⟩
   ·rw [zad] at h5
    obtain ⟨H1, g1, g2⟩ := h5
    cases g2
    obtain ⟨HA', g3, g4⟩ := zqu ho g1
    exact ⟨HA', by simp only [g3, zac], g4⟩
  ·rename_i hr
   simp only [Bool.not_eq_true] at hr; simp only [hr, cond_false]; unfold zja at h5 ⊢
   rw [zae] at h5; obtain ⟨gm, h5⟩ := h5
   rw [zae] at h5; obtain ⟨g0, h5⟩ := h5
   rw [zad] at h5; obtain ⟨c, g1, h5⟩ := h5
   have g1' := zbp ho.le g1
   unfold zaq at g1; rw [zad] at g1; obtain ⟨y, g2, _⟩ := g1
   split at h5
   ·rename_i hc
    unfold ziv at h5; rw [zad] at h5; obtain ⟨old, g3, g4⟩ := h5
    cases g4
    refine ⟨za0 HA (ze3 old new) (some (zep el et)), ?_, zms _ _ ho⟩
    simp only [zae, zad]; refine ⟨gm, g0, c, g1', ?_⟩
    rw [hc]; unfold ziv; simp only [zad]; exact ⟨old, g3, rfl⟩
   ·rename_i es hc
    unfold ziw at h5; rw [zae] at h5; obtain ⟨g3, g4⟩ := h5
    cases g4
    refine ⟨⟨HA.next + 1, (HA.t.del s.1).set HA.next (.cells (c.1.setMany new (s.2.2.1 * et.size)) ((s.2.2.1 + n) * et.size) (some es))⟩, ?_, (ho.delBlk g2).newBlk _⟩
    simp only [zae, zad]; refine ⟨gm, g0, c, g1', ?_⟩
    rw [hc]; unfold ziw; exact zae.2 ⟨g3, rfl⟩
 | none =>
  rw [hs] at h5; simp only [] at h5 ⊢
  rw [zae] at h5; obtain ⟨g0, h5⟩ := h5
  unfold zgh at h5; rw [zal] at h5; split at h5
  ·rename_i hn
   cases h5; refine ⟨HA, ?_, ho⟩
   rw [zae]; refine ⟨g0, ?_⟩
   unfold zgh; rw [hn]; rfl
  ·rename_i hn
   rw [zae] at h5; obtain ⟨g1, h5⟩ := h5
   cases h5; refine ⟨za0 HA new (some (zep el et)), ?_, zms _ _ ho⟩
   rw [zae]; refine ⟨g0, ?_⟩
   unfold zgh; simp only [Bool.not_eq_true] at hn; rw [hn, cond_false, zae]; exact ⟨g1, rfl⟩
theorem z45 {ty u : Nat} {a b : zab} : z7e base (zci C ty u a b) := by
 intro t X HA v H' ho h; unfold zci at h; simp only [zad, zae] at h; obtain ⟨y, h1, z, h2, h3, h4⟩ := h
 obtain ⟨HA', g1, g2⟩ := z68 ho h4
 refine ⟨HA', ?_, g2⟩
 unfold zci; simp only [zad, zae]; exact ⟨y, h1, z, h2, h3, g1⟩
end
def zot (ν : Nat -> Nat) (ae : zw7) (e : Env) : Prop := ∀ i p, tAd ae i = some p -> zzdf i e = some (.ptr (ν p.1) p.2)
def zzdc (base : Nat) (X0 X : Xt) (ν : Nat -> Nat) (lo : Tr (List zab)) : Prop := ∀ d l, lo.get d = some l -> X0 (ν d) = none /\ base <= ν d /\ ∃ c, X (ν d) = some (.cells c l.length none) /\ ∀ j a, l[j]? = some a -> c.get j = some a
theorem zbg {base : Nat} {W J : zhn} {α : Type} {x : Option α} {K : α -> T} {t : Tr zak} {Q : zao} : wpT base W J (obT x K) t Q ↔ ∃ a, x = some a /\ wpT base W J (K a) t Q := by
 cases x with
 | none => exact ⟨fun h => (by cases h), fun ⟨_, h, _⟩ => (by cases h)⟩
 | some a => exact ⟨fun h => ⟨a, rfl, h⟩, fun ⟨_, h, k⟩ => (by cases h; exact k)⟩
theorem zf8 {base : Nat} {W J : zhn} {b : Bool} {K : T} {t : Tr zak} {Q : zao} : wpT base W J (gdT b K) t Q ↔ b = true /\ wpT base W J K t Q := by
 cases b with
 | false => exact ⟨fun h => (by cases h), fun ⟨h, _⟩ => (by cases h)⟩
 | true => exact ⟨fun h => ⟨rfl, h⟩, fun ⟨_, h⟩ => h⟩
theorem zk7 {base : Nat} {W J : zhn} {x : Option zab} {K : zab -> T} {t : Tr zak} {Q : zao} : wpT base W J (.opt x K) t Q ↔ ∃ a, x = some a /\ wpT base W J (K a) t Q := zfd
theorem zkh {base : Nat} {W J : zhn} {x : Tr zak -> Option zab} {K : zab -> T} {t : Tr zak} {Q : zao} : wpT base W J (.light x K) t Q ↔ ∃ a, x t = some a /\ wpT base W J (K a) t Q := zfd
theorem zqh {ν : Nat -> Nat} {ae : zw7} {e : Env} (h : zot ν ae e) {x : Operand} {p : Nat × Nat} (hx : xAd ae x = some p) : ev x e = some (.ptr (ν p.1) p.2) := by
 cases x with
 | tmp i => exact h i p hx
 | const _ => cases hx
 | global _ => cases hx
 | func _ => cases hx
theorem zzae {c : Tr zab} {l : List zab} (h : ∀ j a, l[j]? = some a -> c.get j = some a) : ∀ (n off : Nat), off + n <= l.length -> c.many n off = some ((l.drop off).take n) := by
 intro n; induction n with
 | zero => intro off _; simp; rfl
 | succ n ih =>
  intro off ho; have hlt : off < l.length := by omega
  rw [Tr.many_succ, h off l[off] (yae hlt), zac, ih (off + 1) (by omega), zac]
  rw [yam hlt, List.take_succ_cons]
section
variable {W J : zhn} {t : Tr zak} {X X0 : Xt} {HA : zaf} {e eA : Env} {C : Ctx} {ν : Nat -> Nat} {ae : zw7} {lo : Tr (List zab)} {k : KOp} {Q : zao} {R : zab -> Prop}
theorem z3t (ho : Ov C.base t X HA) (hl : zzdc C.base X0 X ν lo) {d off ty : Nat} {l : List zab} {y : ATy} {v : zab} (h1 : lo.get d = some l) (h2 : C.tys.get ty = some y) (h3 : Nat.ble (off + y.size) (zbw l) = true) (h4 : zlx C ty l off = some v) :
  zau C ty HA (.ptr (ν d) off) = some v := by
 obtain ⟨_, _, c, hc, hg⟩ := hl d l h1
 have hb := (ho.ext _ _ hc).1
 unfold zau; simp only [zab.asPtr, zac]; rw [h2, zac]; unfold zaq; rw [hb, zac]; simp only [zak.asCells, zac]; unfold zlx at h4; rw [h2, zac] at h4; unfold zob; rw [zal] at h4 ⊢
 rw [zh2, za1] at h3; split at h4
 ·rename_i ha
  rw [if_pos ha, zzae hg _ _ h3, zac]; rw [zff, zf4] at h4; exact h4
 ·rename_i ha
  rw [if_neg ha]; rw [zbn] at h4; exact hg _ _ h4
theorem zfu (he : zos e eA) {op : Op} (hp : zpn op = true \/ (∃ s d x, op = .convert s d x /\ (zla C d = 1 \/ zla C s = 2)) \/ (∃ c, op = .call c /\ (c.callee = .builtin .max \/ c.callee = .builtin .min)))
  (h : wpT C.base W J (z23 C op e k) t Q) (hKd : ∀ v, wpT C.base W J (k.Kd v) t Q -> R v) : ∃ v, (zbx op).f C eA HA = some v /\ R v := by
 unfold z23 at h; rw [zbg] at h; obtain ⟨v, h1, h2⟩ := h
 exact ⟨v, zzf1 he hp h1, hKd v h2⟩
theorem z7z {ty : Nat} {u v : zab} {H : zaf} (ht : zla C ty = 4) (h : zbm u = some v) : z7j C ty H u = some v := by
 unfold zla at ht
 cases hy : C.tys.get ty with
 | none => rw [hy] at ht; cases ht
 | some y =>
  rw [hy] at ht; have ht : y.desc.tag = 4 := ht
  unfold z7j; rw [hy, zac]; unfold zbm at h; unfold z7l
  cases u <;> simp only [zab.asSlice, zab.asStr, zab.asMap, zab.tag] at h ⊢ <;> (try (rw [zae] at h; exact absurd h.1 (by decide)))
  case nilslice =>
   rw [zae] at h; have hn : y.desc.asArr = none := by cases hd : y.desc <;> rw [hd] at ht <;> first | rfl | (cases ht; done)
   rw [hn, ht]; simp only [zad, zae]; exact ⟨0, ⟨rfl, rfl⟩, h.2⟩
  case slice a b n m =>
   rw [ht]
   cases h; simp only [zad, zae]; exact ⟨n, ⟨rfl, rfl⟩, rfl⟩
theorem zzbl {ty : Nat} {u v : zab} {H H' : zaf} (ht : zla C ty ≠ 6) (h : z7j C ty H u = some v) : z7j C ty H' u = some v := by
 unfold z7j at h ⊢
 simp only [zad] at h ⊢
 obtain ⟨y, h1, n, h2, h3⟩ := h
 refine ⟨y, h1, n, ?_, h3⟩
 have ht : ¬ Nat.beq y.desc.tag 6 = true := by
  intro hb; apply ht; unfold zla; rw [h1]; exact zcy.1 hb
 unfold z7l at h2 ⊢
 split at h2
 ·exact h2
 ·split at h2
  ·exact h2
  ·split at h2
   ·exact h2
   ·split at h2
    ·rw [zae] at h2; exact absurd h2.1 ht
    ·exact h2
theorem z88 {ty : Nat} {a v : zab} {l h : Option zab} {H H' : zaf} (ht : zla C ty = 2) (hx : zcu C ty H a l h = some v) : zcu C ty H' a l h = some v := by
 unfold zcu at hx ⊢
 rw [zad] at hx ⊢
 obtain ⟨y, h1, h2⟩ := hx
 refine ⟨y, h1, ?_⟩
 unfold zla at ht; rw [h1] at ht; have ht : y.desc.tag = 2 := ht
 unfold zgd at h2 ⊢
 have n1 : y.desc.asSlice = none := by cases hd : y.desc <;> rw [hd] at ht <;> first | rfl | (cases ht; done)
 have n2 : y.desc.asArr = none := by cases hd : y.desc <;> rw [hd] at ht <;> first | rfl | (cases ht; done)
 split at h2
 ·exact h2
 ·split at h2
  ·rw [n1] at h2; cases h2
  ·split at h2
   ·rw [n2] at h2; cases h2
   ·exact h2
theorem zrh {u : zab} (h : zab.one u = true) : u.cells = [u] := by
 cases u <;> first
  | rfl
  | (have := zc8.1 h; simp [zab.tag] at this)
theorem z6o {tyAt : Nat -> Option Nat} (place : Nat -> Option (Nat × Nat)) : ∀ (vs : List (Nat × zab)) {q : List (Nat × zab × List zab) × List zab}, z9w C tyAt vs = some q -> zd9 zab.one q.2 = true -> ∀ cells l, zzfy place q.1 cells = some l -> zm6 place vs cells = some l := by
 intro vs; induction vs with
 | nil => intro q h _ cells l hl; cases h; exact hl
 | cons p vs ih =>
  intro q h h1 cells l hl; have h : (ob (tyAt p.1) fun t => ob (C.tys.get t) fun ty => ob (z9w C tyAt vs) fun r => some (bif ty.desc.isAgg then ((p.1, p.2, p.2.cells) :: r.1, r.2) else ((p.1, p.2, [p.2]) :: r.1, p.2 :: r.2))) = some q := h
  simp only [zad] at h; obtain ⟨ty, _, y, _, r, h3, h4⟩ := h
  have fin : ∀ (rest : List zab), zd9 zab.one r.2 = true -> (ob (place p.1) fun q => ob (zzfx cells q.1 q.2 p.2.cells) fun cells => zzfy place r.1 cells) = some l -> zm6 place (p :: vs) cells = some l := by
   intro _ hr hl; show (ob (place p.1) fun q => ob (zl5 cells q.1 q.2 p.2) fun cells => zm6 place vs cells) = some l
   simp only [zad] at hl ⊢
   obtain ⟨a, g1, b, g2, g3⟩ := hl
   exact ⟨a, g1, b, g2, ih h3 hr _ _ g3⟩
  cases hb : y.desc.isAgg with
  | true =>
   rw [hb] at h4
   cases h4; exact fin [] h1 hl
  | false =>
   rw [hb] at h4
   cases h4; rw [zc3, cond_false] at h1; simp only [ybh, yac] at h1; have hl : (ob (place p.1) fun q => ob (zzfx cells q.1 q.2 [p.2]) fun cells => zzfy place r.1 cells) = some l := hl
   rw [<- zrh h1.1] at hl; exact fin [] (by rw [zc3]; exact h1.2) hl
theorem zzis (he : zos e eA) (ha : zot ν ae eA) (ho : Ov C.base t X HA) (hl : zzdc C.base X0 X ν lo) {op : Op} (h : wpT C.base W J (tL C op e ae lo k) t Q)
  (hK : ∀ v, wpT C.base W J (k.K v) t Q -> R v) (hKd : ∀ v, wpT C.base W J (k.Kd v) t Q -> R v) (hKA : ∀ d off, wpT C.base W J (k.KA d off) t Q -> R (.ptr (ν d) off)) :
  ∃ v, (zbx op).f C eA HA = some v /\ R v := by
 cases op <;> simp only [tL] at h <;> try (cases h; done)
 case move x =>
  unfold zzdt at h; split at h
  ·rename_i p hp
   exact ⟨_, zqh ha hp, hKA _ _ h⟩
  ·exact zfu he (.inl rfl) h hKd
 case assign x =>
  unfold zzdt at h; split at h
  ·rename_i p hp
   exact ⟨_, zqh ha hp, hKA _ _ h⟩
  ·exact zfu he (.inl rfl) h hKd
 case pick c a b => exact zfu he (.inl rfl) h hKd
 case load ty a =>
  unfold tLoad at h; split at h
  ·rename_i p hp
   simp only [zbg, zf8] at h; obtain ⟨l, h1, y, h2, h3, v, h4, h5⟩ := h
   refine ⟨v, ?_, hKd v h5⟩
   show zrr ty a C eA HA = some v
   rw [zzaz, zqh ha hp, zac]; exact z3t ho hl h1 h2 h3 h4
  ·rw [zbg] at h
   obtain ⟨u, h1, h2⟩ := h
   rw [zkh] at h2; obtain ⟨v, h3, h4⟩ := h2
   refine ⟨v, ?_, hK v h4⟩
   show zrr ty a C eA HA = some v
   rw [zzaz, zas he h1, zac]; exact znw ho.le h3
 case nilCheck x =>
  unfold tNil at h; split at h
  ·rename_i p hp
   refine ⟨_, ?_, hKA _ _ h⟩
   show zze7 x C eA HA = _
   rw [zzhj (zqh ha hp)]; rfl
  ·rw [zbg] at h
   obtain ⟨u, h1, h2⟩ := h
   rw [zk7] at h2; obtain ⟨v, h3, h4⟩ := h2
   refine ⟨v, ?_, hK v h4⟩
   show zze7 x C eA HA = _
   rw [zzhj (zas he h1)]; exact h3
 case binOp op ty x y u =>
  unfold tBin at h; rw [zal] at h; split at h
  ·exact zfu he (.inl rfl) h hKd
  ·simp only [zbg, zk7] at h
   obtain ⟨a, h1, b, h2, v, h3, h4⟩ := h
   refine ⟨v, ?_, hK v h4⟩
   show zza4 op ty x y C eA HA = _
   rw [lBin_v (zas he h1) (zas he h2)]; exact h3
 case unOp o ty x =>
  split at h
  ·simp only [zbg, zk7] at h
   obtain ⟨u, h1, v, h2, h3⟩ := h
   refine ⟨v, ?_, hK v h3⟩
   show lUn .xor x C eA HA = _
   unfold lUn; rw [zas he h1]; exact h2
  ·exact zfu he (.inl rfl) h hKd
 case convert s d x =>
  unfold zziu at h; rw [zal] at h; split at h
  ·rename_i hd
   rw [zal] at h; split at h
   ·rename_i hs
    exact zfu he (.inr (.inl ⟨s, d, x, rfl, .inr (zcy.1 hs)⟩)) h hKd
   ·simp only [zbg, zkh] at h
    obtain ⟨u, h1, v, h2, h3⟩ := h
    refine ⟨v, ?_, hK v h3⟩
    show zk3 s d x C eA HA = _
    rw [zza2 (zas he h1)]; exact z44 ho.le h2
  ·rw [zal] at h
   split at h
   ·rename_i hd
    exact zfu he (.inr (.inl ⟨s, d, x, rfl, .inl (zcy.1 hd)⟩)) h hKd
   ·cases h
 case makeInterface ty x => exact zfu he (.inl rfl) h hKd
 case makeFunc fn a b => exact zfu he (.inl rfl) h hKd
 case slice ty x lo' hi mx =>
  cases mx with
  | some _ => cases h
  | none =>
   simp only [zzgw, zbg] at h; obtain ⟨a, h1, l, h2, r, h3, h4⟩ := h
   rw [zal] at h4; show ∃ v, zmw ty x lo' hi C eA HA = some v /\ R v
   rw [zze6 (zas he h1) (z4i he h2) (z4i he h3)]
   split at h4
   ·rename_i ht
    rw [zk7] at h4; obtain ⟨v, h5, h6⟩ := h4
    exact ⟨v, z88 (zcy.1 ht) h5, hK v h6⟩
   ·rw [zkh] at h4
    obtain ⟨v, h5, h6⟩ := h4
    exact ⟨v, z0c ho.le h5, hK v h6⟩
 case fieldAddr s x f =>
  unfold ztv at h; show ∃ v, zdn s x f C eA HA = some v /\ R v
  split at h
  ·rename_i p hp
   rw [zbg] at h; obtain ⟨o, h1, h2⟩ := h
   refine ⟨_, ?_, hKA _ _ h2⟩
   rw [zo5 (zqh ha hp)]
   unfold za4; rw [h1]; rfl
  ·simp only [zbg, zk7] at h
   obtain ⟨u, h1, v, h2, h3⟩ := h
   refine ⟨v, ?_, hK v h3⟩
   rw [zo5 (zas he h1)]; exact h2
 case field ty x f => exact zfu he (.inl rfl) h hKd
 case indexAddr ty x i =>
  unfold ztu at h; show ∃ v, zdm ty x i C eA HA = some v /\ R v
  split at h
  ·rename_i p hp
   simp only [zbg] at h; obtain ⟨iv, h1, n, h2, o, h3, h4⟩ := h
   refine ⟨_, ?_, hKA _ _ h4⟩
   rw [zo3 (zqh ha hp) (zas he h1)]
   unfold z2v at h3; simp only [zad, zae] at h3; obtain ⟨y, g1, a, g2, et, g3, g4, g5⟩ := h3
   cases g5
   unfold zah; rw [g1, zac, h2, zac]; simp only [zab.asSlice, zab.asPtr, zac]; rw [g2, zac, g3, zac, g4]; rfl
  ·simp only [zbg, zk7] at h
   obtain ⟨u, h1, w, h2, v, h3, h4⟩ := h
   refine ⟨v, ?_, hK v h4⟩
   rw [zo3 (zas he h1) (zas he h2)]; exact h3
 case index ty x i =>
  rw [zal] at h; split at h
  ·exact zfu he (.inl rfl) h hKd
  ·simp only [zbg, zk7] at h
   obtain ⟨u, h1, w, h2, v, h3, h4⟩ := h
   refine ⟨v, ?_, hK v h4⟩
   show zj7 ty x i C eA HA = _
   rw [zze9 (zas he h1) (zas he h2)]; exact h3
 case lookup ty x i ok =>
  simp only [zbg, zkh] at h; obtain ⟨m, h1, key, h2, v, h3, h4⟩ := h
  refine ⟨v, ?_, hK v h4⟩
  show zha ty x i ok C eA HA = _
  rw [zzay (zas he h1) (zas he h2)]; exact zxf ho.le h3
 case extract x i =>
  simp only [zbg, zk7] at h; obtain ⟨u, h1, v, h2, h3⟩ := h
  refine ⟨v, ?_, hK v h3⟩
  show zfi x i C eA HA = _
  rw [z58 (zas he h1)]; exact h2
 case typeAssert x a u ok =>
  simp only [zbg, zk7] at h; obtain ⟨w, h1, v, h2, h3⟩ := h
  refine ⟨v, ?_, hK v h3⟩
  show zhb x u ok C eA HA = _
  rw [zza5 (zas he h1)]; exact h2
 case build ty ps =>
  unfold zzgy at h; simp only [zbg, zf8] at h; obtain ⟨y, h1, hbd, vs, h2, q, h3, l, h4, h5⟩ := h
  have h5 : if zd9 zab.one q.2 = true then wpT C.base W J (k.Kd (.agg l)) t Q else False := h5
  split at h5
  ·rename_i hone
   refine ⟨_, ?_, hKd _ h5⟩
   show zlf ty ps C eA HA = _
   have hf := z6o (zug C y) vs h3 hone y.zero l h4
   unfold zlf; rw [h1, zac, zwr he h2, zac]
   cases hs : y.desc.asStruct with
   | some fs =>
    simp only []; have : (fun i => ob (zd8 fs i) fun x => some (x.1, x.2.2)) = zug C y := by funext i; unfold zug; rw [hs]
    rw [this, hf]; rfl
   | none =>
    simp only []; unfold zzk at hbd; rw [hs] at hbd; simp only [] at hbd
    cases ha : y.desc.asArr with
    | none => rw [ha] at hbd; cases hbd
    | some a =>
     rw [ha] at hbd; simp only [] at hbd
     cases hy : C.tys.get a.2 with
     | none => rw [hy] at hbd; cases hbd
     | some et =>
      simp only [zac]; have : (fun i => some (i * et.size, et.size)) = zug C y := by funext i; unfold zug; rw [hs]; simp only []; rw [ha, zac, hy, zac]
      rw [hy, zac, this, hf]; rfl
  ·exact h5.elim
 case call c =>
  split at h
  ·rename_i b hb
   cases b <;> simp only [zmf] at h <;> try (cases h; done)
   case len =>
    unfold tLen at h; simp only [zbg] at h; obtain ⟨ty, h1, x, h2, u, h3, h4⟩ := h
    show ∃ v, (zfx c c.callee).f C eA HA = some v /\ R v
    rw [hb]; show ∃ v, z1j c C eA HA = some v /\ R v
    rw [lLen_v h1 h2 (zas he h3)]
    rw [zal] at h4; split at h4
    ·rename_i ht
     rw [zk7] at h4; obtain ⟨v, h5, h6⟩ := h4
     exact ⟨v, z7z (zcy.1 ht) h5, hK v h6⟩
    ·rw [zal] at h4
     split at h4
     ·rw [zkh] at h4
      obtain ⟨v, h5, h6⟩ := h4
      exact ⟨v, z7y ho.le h5, hK v h6⟩
     ·rename_i ht
      rw [zbg] at h4; obtain ⟨v, h5, h6⟩ := h4
      exact ⟨v, zzbl (fun e => ht (zcy.2 e)) h5, hKd v h6⟩
   case max => exact zfu he (.inr (.inr ⟨c, rfl, .inl hb⟩)) h hKd
   case min => exact zfu he (.inr (.inr ⟨c, rfl, .inr hb⟩)) h hKd
  ·cases h
end
end Go.Am
namespace Go.Am
open Go Go.RowKit
def z2a (C : Ctx) (A : Tr zcc) (f : Nat) (args : List zab) (H : zaf) : zbs :=
 bif Nat.blt f yo then
  match C.prims.get f with
  | some g => g args H
  | none => fnV C A (.func f) args H
 else fnV C A (.yld (f - yo)) args H
theorem zkx {C : Ctx} {A : Tr zcc} {f : Nat} {args : List zab} {H : zaf} (h : Nat.blt f yo = true) : z2a C A f args H = (match C.prims.get f with
  | some g => g args H
  | none => fnV C A (.func f) args H) := by unfold z2a; rw [h]; rfl
theorem zzg {C : Ctx} {A : Tr zcc} {l : Nat} {args : List zab} {H : zaf} : z2a C A (yo + l) args H = fnV C A (.yld l) args H := by
 unfold z2a; have : Nat.blt (yo + l) yo = false := Bool.eq_false_iff.2 fun e => by have := zc8.1 e; omega
 rw [this, Nat.add_sub_cancel_left]; rfl
def Res (base : Nat) (X0 : Xt) (Q : zao) (d : zbs) : Prop := ∃ v t' HA' X', d = some (v, HA') /\ Ov base t' X' HA' /\ XLe X0 X' /\ Q v t'
theorem Res.mono {base : Nat} {X0 : Xt} {Q Q' : zao} {d : zbs} (h : Res base X0 Q d) (k : ∀ v t, Q v t -> Q' v t) : Res base X0 Q' d := by
 obtain ⟨v, t', HA', X', h1, h2, h3, h4⟩ := h
 exact ⟨v, t', HA', X', h1, h2, h3, k _ _ h4⟩
def zkf (C : Ctx) (A : Tr zcc) (W : zhn) : Prop := ∀ f args t R, W f args t R -> ∀ X HA, Ov C.base t X HA -> Res C.base X R (z2a C A f args HA)
section
variable {W J : zhn} {t : Tr zak} {X X0 : Xt} {HA : zaf} {e eA : Env} {C : Ctx} {A : Tr zcc} {ν : Nat -> Nat} {ae : zw7} {lo : Tr (List zab)} {k : KOp} {kl : KLo} {Q : zao}
theorem zib {f : LOp} {H : zaf} {v : zab} (h : f C e H = some v) : lv f C e H = .val v H := by unfold lv; rw [h]
theorem zzc2 {op : Op} {H : zaf} {v : zab} (h : (zbx op).f C e H = some v) : (aop op).f C e H = .val v H := by
 cases op
 case move x => exact zib h
 case assign x => exact zib h
 case pick c a b => exact zib h
 case load t a => exact zib h
 case nilCheck x => exact zib h
 case binOp op t x y u => exact zib h
 case unOp op t x => exact zib h
 case makeInterface t x => exact zib h
 case makeFunc fn a b => exact zib h
 case slice t x lo hi mx => exact zib h
 case fieldAddr s x f => exact zib h
 case field t x f => exact zib h
 case indexAddr t x i => exact zib h
 case index t x i => exact zib h
 case extract t i => exact zib h
 case build t ps => exact zib h
 case typeAssert x t u ok => exact zib h
 case lookup t x i ok => exact zib h
 case convert s d x =>
  show zf5 s d x C e H = _
  have h : zk3 s d x C e H = some v := h
  unfold zf5; rw [h]
 case call c =>
  have h : (zfx c c.callee).f C e H = some v := h
  show (zog c c.callee).f C e H = _
  cases hc : c.callee with
  | value f => rw [hc] at h; cases h
  | invoke a b => rw [hc] at h; cases h
  | builtin b =>
   rw [hc] at h
   cases b
   case len => exact zib (f := z1j c) h
   case max => exact zib (f := zzax c) h
   case min => exact zib (f := zzav c) h
   all_goals exact absurd (show (none : Option zab) = some v from h) (by simp)
 all_goals exact absurd (show (none : Option zab) = some v from h) (by simp)
theorem zht {x : Option (zab × zaf)} {v : zab} {H' : zaf} {kd : zab -> zaf -> zbs} {φ : Ora} (h : x = some (v, H')) : zjr φ (zvw x) HA kd = kd v H' := by subst h; rfl
theorem zjw (ho : Ov C.base t X HA) {x : zaf -> Option (zab × zaf)} (hx : z7e C.base x) {K : zab -> T} (h : wpT C.base W J (.heavy x K) t Q) {kd : zab -> zaf -> zbs} {φ : Ora}
  (hK : ∀ v t' HA' X', Ov C.base t' X' HA' -> XLe X X' -> wpT C.base W J (K v) t' Q -> Res C.base X0 Q (kd v HA')) {r : zs4} (hr : ∀ p, x HA = some p -> zjr φ r HA kd = kd p.1 p.2) : Res C.base X0 Q (zjr φ r HA kd) := by
 have h := h HA.next ho.nextT ho.base
 rw [zfd] at h; obtain ⟨⟨v, H'⟩, h1, h2⟩ := h
 obtain ⟨HA', h3, h4⟩ := hx _ _ _ _ _ ho h1
 rw [hr _ h3]; exact hK v _ _ _ h4 (XLe.refl _) h2
theorem zzkp (hW : zkf C A W) (ho : Ov C.base t X HA) {f : Nat} (hf : Nat.blt f yo = true) {args : List zab} {K : zab -> T} (h : W f args t fun v t' => wpT C.base W J (K v) t' Q) {kd : zab -> zaf -> zbs}
  (hK : ∀ v t' HA' X', Ov C.base t' X' HA' -> XLe X X' -> wpT C.base W J (K v) t' Q -> Res C.base X0 Q (kd v HA')) : Res C.base X0 Q (zjr (fnV C A) (zu0 C HA args f (C.prims.get f)) HA kd) := by
 obtain ⟨v, t', HA', X', h1, h2, h3, h4⟩ := hW _ _ _ _ h X HA ho
 rw [zkx hf] at h1; unfold zu0
 cases hp : C.prims.get f with
 | some g =>
  rw [hp] at h1; simp only [h1]; exact hK _ _ _ _ h2 h3 h4
 | none =>
  rw [hp] at h1; have h1 : fnV C A (.func f) args HA = some (v, HA') := h1
  show Res C.base X0 Q (ob (fnV C A (.func f) args HA) fun p => kd p.1 p.2)
  rw [h1]; exact hK _ _ _ _ h2 h3 h4
theorem zzeb (hW : zkf C A W) (ho : Ov C.base t X HA) {l : Nat} {args : List zab} {K : zab -> T} (h : W (yo + l) args t fun v t' => wpT C.base W J (K v) t' Q) {kd : zab -> zaf -> zbs}
  (hK : ∀ v t' HA' X', Ov C.base t' X' HA' -> XLe X X' -> wpT C.base W J (K v) t' Q -> Res C.base X0 Q (kd v HA')) : Res C.base X0 Q (zjr (fnV C A) (.round l args) HA kd) := by
 obtain ⟨v, t', HA', X', h1, h2, h3, h4⟩ := hW _ _ _ _ h X HA ho
 rw [zzg] at h1; show Res C.base X0 Q (ob (fnV C A (.yld l) args HA) fun p => kd p.1 p.2)
 rw [h1]; exact hK _ _ _ _ h2 h3 h4
theorem Ov.setX {base : Nat} (h : Ov base t X HA) {b : Nat} {y : zak} (hb : X b = some y) (z : zak) : Ov base t (fun c => if c = b then some z else X c) (Am.setBlk HA b z) := by
 obtain ⟨g1, g2, g3⟩ := h.ext b y hb
 refine ⟨h.base, fun c hc => ?_, fun c u hc => ?_, h.lt⟩
 ·split at hc
  ·cases hc
  ·rename_i hne
   show (HA.t.set b z).get c = _
   rw [Tr.get_set, if_neg hne]; exact h.same c hc
 ·show (HA.t.set b z).get c = _ /\ _ /\ c < HA.next
  rw [Tr.get_set]; split at hc
  ·rename_i e; cases hc; subst e; rw [if_pos rfl]; exact ⟨rfl, g2, g3⟩
  ·rename_i hne; rw [if_neg hne]; exact h.ext c u hc
theorem Ov.newX {base : Nat} (h : Ov base t X HA) (z : zak) : Ov base t (fun c => if c = HA.next then some z else X c) (Am.newBlk HA z) := by
 refine ⟨Nat.le_succ_of_le h.base, fun c hc => ?_, fun c u hc => ?_, fun b y hb => Nat.lt_succ_of_lt (h.lt b y hb)⟩
 ·split at hc
  ·cases hc
  ·rename_i hne
   show (HA.t.set HA.next z).get c = _
   rw [Tr.get_set, if_neg hne]; exact h.same c hc
 ·show (HA.t.set HA.next z).get c = _ /\ _ /\ c < HA.next + 1
  rw [Tr.get_set]; split at hc
  ·rename_i e; cases hc; subst e; rw [if_pos rfl]; exact ⟨rfl, h.nextT, Nat.lt_succ_self _⟩
  ·rename_i hne; rw [if_neg hne]; have := h.ext c u hc; exact ⟨this.1, this.2.1, Nat.lt_succ_of_lt this.2.2⟩
theorem zzah (ho : Ov C.base t X HA) (hl : zzdc C.base X0 X ν lo) {d off : Nat} {l l' : List zab} {u : zab} {sz : Nat} (h1 : lo.get d = some l) (h2 : zl5 l off sz u = some l') (h3 : zd9 zab.one u.cells = true) :
  Nat.beq (zbw u.cells) sz = true /\ l'.length = l.length /\ ∃ c', zem C HA (ν d) off u.cells = some (setBlk HA (ν d) (.cells c' l.length none)) /\ ∀ j a, l'[j]? = some a -> c'.get j = some a := by
 obtain ⟨_, hb, c, hc, hg⟩ := hl d l h1
 have hx := (ho.ext _ _ hc).1
 unfold zl5 at h2; simp only [zae, yac, zh2, za1, zb7, zff, zf4, Option.some.injEq] at h2; obtain ⟨⟨g1, g2⟩, g3⟩ := h2
 subst g3; refine ⟨by rw [za1]; exact g1, ?_, c.setMany u.cells off, ?_, ?_⟩
 ·simp; omega
 ·unfold zem
  have n1 : (!Nat.blt (ν d) C.base) = true := by
   cases hq : Nat.blt (ν d) C.base with
   | true => have := zc8.1 hq; omega
   | false => rfl
  rw [n1]; unfold zaq; rw [hx]; simp only [zae, zac, zak.asCells, yac, zh2, za1]; exact ⟨trivial, ⟨g2, h3⟩, trivial⟩
 ·intro j a hj
  rw [Tr.get_setMany]; split
  ·rename_i hh
   rw [yaq (by simp; omega)] at hj
   rw [ybp (by simp; omega)] at hj
   rw [<- hj]; congr 1
   simp; omega
  ·rename_i hh
   refine hg j a ?_
   by_cases hlt : j < off
   ·rw [ybp (by simp; omega)] at hj
    rw [ycg, if_pos hlt] at hj; exact hj
   ·rw [yaq (by simp; omega), yaq (by simp; omega)] at hj
    rw [ycf] at hj; rw [<- hj]; congr 1
    simp; omega
theorem zzcp {y : ATy} {u : zab} (h : zd9 zab.one (zux y u) = true) : zux y u = u.cells := by
 unfold zux at h ⊢
 rw [zal] at h ⊢
 split
 ·rfl
 ·rename_i e
  rw [if_neg e, zc3] at h; rw [zrh (by simpa using h)]
theorem z5n {op : Op} {v : zab} {kd : zab -> zaf -> zbs} {φ : Ora} (h : (zbx op).f C eA HA = some v) : zjr φ ((aop op).f C eA HA) HA kd = kd v HA := by rw [zzc2 h]; rfl
theorem zzar {la : List Nat} {dst : Option Nat} {d : Nat} (h : laOf la dst = some d) : dst = some d := by
 unfold laOf at h
 cases dst with
 | none => cases h
 | some x => simp only [zal] at h; split at h <;> cases h; rfl
theorem tH_ok (hW : zkf C A W) (he : zos e eA) (ha : zot ν ae eA) (ho : Ov C.base t X HA) (hl : zzdc C.base X0 X ν lo) {la : List Nat} {dst : Option Nat} {op : Op}
  (h : wpT C.base W J (tH C la dst op e ae lo k kl) t Q) {kd : zab -> zaf -> zbs}
  (hK : ∀ v t' HA' X', Ov C.base t' X' HA' -> XLe X X' -> wpT C.base W J (k.K v) t' Q -> Res C.base X0 Q (kd v HA'))
  (hKd : ∀ v t' HA' X', Ov C.base t' X' HA' -> XLe X X' -> wpT C.base W J (k.Kd v) t' Q -> Res C.base X0 Q (kd v HA'))
  (hKA : ∀ d off, wpT C.base W J (k.KA d off) t Q -> Res C.base X0 Q (kd (.ptr (ν d) off) HA))
  (hnew : ∀ d l, laOf la dst = some d -> wpT C.base W J (kl.new d l) t Q -> Res C.base X0 Q (kd (.ptr HA.next 0) (za0 HA l none)))
  (hset : ∀ d l l' c', lo.get d = some l -> l'.length = l.length -> (∀ j a, l'[j]? = some a -> c'.get j = some a) -> wpT C.base W J (kl.set d l') t Q -> Res C.base X0 Q (kd zbh (setBlk HA (ν d) (.cells c' l.length none)))) :
  Res C.base X0 Q (zjr (fnV C A) ((aop op).f C eA HA) HA kd) := by
 have light : ∀ (op : Op), wpT C.base W J (tL C op e ae lo k) t Q -> Res C.base X0 Q (zjr (fnV C A) ((aop op).f C eA HA) HA kd) := by
  intro op h; obtain ⟨v, h1, h2⟩ := zzis (R := fun v => Res C.base X0 Q (kd v HA)) he ha ho hl h (fun v h => hK v _ _ _ ho (XLe.refl _) h) (fun v h => hKd v _ _ _ ho (XLe.refl _) h) hKA
  rw [z5n h1]; exact h2
 cases op <;> simp only [tH] at h <;> try (exact light _ h)
 case alloc ty =>
  show Res C.base X0 Q (zjr _ (zo9 ty C eA HA) HA kd)
  rw [zal] at h; split at h
  ·rename_i ht
   have ht : zh7 C ty = none := by
    cases hx : zh7 C ty with
    | none => rfl
    | some _ => rw [hx] at ht; cases ht
   split at h
   ·rename_i d hd
    rw [zbg] at h; obtain ⟨y, h1, h2⟩ := h
    unfold zo9; rw [h1, ht]; exact hnew d _ hd h2
   ·refine zjw ho z73 h hK fun p hp => ?_
    unfold zo9; rw [ht]; have hp : (ob (C.tys.get ty) fun ty => some (.ptr HA.next 0, za0 HA ty.zero none)) = some p := hp
    rw [hp]; rfl
  ·refine zjw ho z47 h hK fun p hp => ?_
   unfold zo9; unfold zlp at hp; rw [hp]; rfl
 case box ty x =>
  rw [zal] at h; show Res C.base X0 Q (zjr _ (zzfn ty x C eA HA) HA kd)
  unfold zzfn; split at h
  ·rename_i ht
   have ht : zh7 C ty = none := by
    cases hx : zh7 C ty with
    | none => rfl
    | some _ => rw [hx] at ht; cases ht
   rw [zbg] at h; obtain ⟨v, h1, h⟩ := h
   rw [zas he h1, ht]; split at h
   ·rename_i d hd
    rw [zbg] at h; obtain ⟨y, _, h⟩ := h
    rw [zal] at h; split at h
    ·exact hnew d _ hd h
    ·have h : if zab.one v = true then wpT C.base W J (kl.new d [v]) t Q else False := h
     split at h
     ·rename_i h1
      have := hnew d _ hd h
      rw [<- zrh h1] at this; exact this
     ·exact h.elim
   ·refine zjw ho zzik h hK fun p hp => ?_
    cases hp; rfl
  ·rw [zbg] at h
   obtain ⟨v, h1, h⟩ := h
   rw [zas he h1]; refine zjw ho zzdn h hK fun p hp => ?_
   cases hp; rfl
 case buildSlice ty n ps =>
  rw [zbg] at h; obtain ⟨vs, h1, h⟩ := h
  show Res C.base X0 Q (zjr _ (zeb ty n ps C eA HA) HA kd)
  refine zjw ho zs7 h hK fun p hp => ?_
  refine zht (v := p.1) (H' := p.2) ?_
  rw [zwr he h1]; exact hp
 case makeMap ty r =>
  cases r with
  | some _ => simp only [] at h; exact light _ h
  | none =>
   simp only [] at h; show Res C.base X0 Q (zjr _ (zm1 none C eA HA) HA kd)
   refine zjw ho z0d h hK fun p hp => ?_
   cases hp; rfl
 case makeSlice ty l c =>
  simp only [zbg] at h; obtain ⟨a, h1, b, h2, h⟩ := h
  show Res C.base X0 Q (zjr _ (zof ty l c C eA HA) HA kd)
  refine zjw ho zva h hK fun p hp => ?_
  refine zht (v := p.1) (H' := p.2) ?_
  rw [zas he h1, zas he h2]; unfold zda at hp
  cases hx : C.tys.get ty with
  | none => rw [hx] at hp; cases hp
  | some y =>
   rw [hx] at hp; simp only [zac] at hp ⊢
   exact hp
 case store ty a x =>
  unfold zzgv at h; show Res C.base X0 Q (zjr _ (zyz ty a x C eA HA) HA kd)
  split at h
  ·rename_i p hp
   simp only [zbg] at h; obtain ⟨u, h1, y, h2, l, h3, l', h4, h5⟩ := h
   have h5 : if zd9 zab.one (zux y u) = true then wpT C.base W J (kl.set p.1 l') t Q else False := h5
   split at h5
   ·rename_i hone
    have hcell := zzcp hone
    rw [hcell] at hone h4; have h4 : zl5 l p.2 y.size u = some l' := h4
    obtain ⟨g1, g2, c', g3, g4⟩ := zzah ho hl h3 h4 hone
    have := hset p.1 l l' c' h3 g2 g4 h5
    have e1 : zjr (fnV C A) (zyz ty a x C eA HA) HA kd = kd zbh (setBlk HA (ν p.1) (.cells c' l.length none)) := by
     refine zht ?_
     rw [h2, zac, zqh ha hp, zac]; simp only [zab.asPtr, zac]; rw [zas he h1, zac, g1, g3]; rfl
    rw [e1]; exact this
   ·exact h5.elim
  ·simp only [zbg] at h
   obtain ⟨av, h1, u, h2, h⟩ := h
   refine zjw ho z7x h hKd fun p hp => ?_
   refine zht (v := p.1) (H' := p.2) ?_
   rw [zas he h1]; unfold zbl at hp
   cases hx : C.tys.get ty with
   | none => rw [hx] at hp; cases hp
   | some y =>
    rw [hx] at hp; simp only [zac] at hp ⊢
    rw [zas he h2]; exact hp
 case convert s d x =>
  rw [zal] at h; split at h
  ·rename_i hd
   rw [zbg] at h; obtain ⟨u, h1, h⟩ := h
   show Res C.base X0 Q (zjr _ (zf5 s d x C eA HA) HA kd)
   have hn : zk3 s d x C eA HA = none := by
    rw [zza2 (zas he h1)]
    cases hq : zk1 C s d HA u with
    | none => rfl
    | some q =>
     exfalso
     unfold zk1 at hq; simp only [zad] at hq; obtain ⟨sy, g1, dy, g2, g3⟩ := hq
     have hd := zcy.1 hd
     unfold zla at hd; rw [g2] at hd; have hd : dy.desc.tag = 4 := hd
     unfold zna at g3; have n1 : dy.desc.asInt = none := by cases hz : dy.desc <;> rw [hz] at hd <;> first | rfl | (cases hd; done)
     have n2 : dy.desc.isString = false := by unfold zce.isString; rw [hd]; rfl
     rw [n1, n2] at g3
     cases g3
   unfold zf5; rw [hn]; simp only []; refine zjw ho z0b h hK fun p hp => ?_
   refine zht (v := p.1) (H' := p.2) ?_
   rw [zas he h1]; exact hp
  ·exact light _ (by simpa only [tL] using h)
 case insert ty m key x =>
  simp only [zbg] at h; obtain ⟨mv, h1, kv, h2, u, h3, h⟩ := h
  show Res C.base X0 Q (zjr _ (zkb ty m key x C eA HA) HA kd)
  refine zjw ho ztr h hKd fun p hp => ?_
  refine zht (v := p.1) (H' := p.2) ?_
  rw [zas he h1, zas he h2, zas he h3]; exact hp
 case mapUpdate ty m key x =>
  simp only [zbg] at h; obtain ⟨mv, h1, kv, h2, u, h3, h⟩ := h
  show Res C.base X0 Q (zjr _ (zkb ty m key x C eA HA) HA kd)
  refine zjw ho ztr h hKd fun p hp => ?_
  refine zht (v := p.1) (H' := p.2) ?_
  rw [zas he h1, zas he h2, zas he h3]; exact hp
 case call c =>
  show Res C.base X0 Q (zjr _ ((zog c c.callee).f C eA HA) HA kd)
  split at h
  ·rename_i f hc
   rw [hc]; show Res C.base X0 Q (zjr _ (zr7 f c.args C eA HA) HA kd)
   have fin : ∀ {fv : zab} {as : List zab}, ev f e = some fv -> evs c.args.toList e = some as -> wpT C.base W J (.callv fv as k.K) t Q -> Res C.base X0 Q (zjr (fnV C A) (zr7 f c.args C eA HA) HA kd) := by
    intro fv as h1 h2 h; have h : zcf (zpq fv as) fun p => W p.1 p.2 t fun v t' => wpT C.base W J (k.K v) t' Q := h
    rw [zfd] at h; obtain ⟨⟨g, as'⟩, h3, h4⟩ := h
    unfold zpq at h3; rw [zad] at h3; obtain ⟨p, h5, h6⟩ := h3
    have e0 : zr7 f c.args C eA HA = zzkq C HA (ze3 p.2.1 as) p.2.2 p.1 := by
     unfold zr7 zfb; rw [zas he h1, zac, h5, zac, zwq he h2, zac, zac]; rfl
    rw [e0]
    cases hp : p.1 with
    | func g' =>
     rw [hp] at h6; simp only [zae] at h6; obtain ⟨hg, h6⟩ := h6
     cases h6; exact zzkp hW ho hg h4 hK
    | yld l =>
     rw [hp] at h6; simp only [zae, yac] at h6; obtain ⟨⟨ha, hb⟩, h6⟩ := h6
     cases h6; have ea : p.2.1 = [] := by cases hx : p.2.1 with | nil => rfl | cons _ _ => rw [hx] at ha; cases ha
     have eb : p.2.2 = [] := by cases hx : p.2.2 with | nil => rfl | cons _ _ => rw [hx] at hb; cases hb
     rw [ea, eb]; exact zzeb hW ho h4 hK
   unfold zzgx at h; split at h
   ·rename_i g
    rw [zf8, zbg] at h; obtain ⟨hg, as, h1, h⟩ := h
    refine fin (fv := .func (.func g) [] []) rfl h1 ?_
    show zcf (zpq (.func (.func g) [] []) as) _
    have e2 : zpq (.func (.func g) [] []) as = some (g, as) := by
     show zaj (Nat.blt g yo) (some (g, ze3 (ze3 [] as) [])) = _
     rw [hg, zb7, zb7]; simp [zaj]
    rw [e2]; exact h
   ·simp only [zbg] at h
    obtain ⟨fv, h1, as, h2, h⟩ := h
    exact fin h1 h2 h
  ·rename_i b hb
   rw [hb]; have lt : wpT C.base W J (zmf C c e k b) t Q -> Res C.base X0 Q (zjr (fnV C A) ((zog c (.builtin b)).f C eA HA) HA kd) := by
    intro h; have := light (.call c) (by show wpT C.base W J (match c.callee with | .builtin b => zmf C c e k b | _ => .fail) t Q; rw [hb]; exact h)
    have e1 : (aop (.call c)).f C eA HA = (zog c c.callee).f C eA HA := rfl
    rw [e1, hb] at this; exact this
   unfold zxo at h; split at h
   ·simp only [zbg, two'] at h
    obtain ⟨ty, h1, u, h2, p, h3, h⟩ := h
    show Res C.base X0 Q (zjr _ (zoh c C eA HA) HA kd)
    refine zjw ho z45 h hK fun q hq => ?_
    refine zht (v := q.1) (H' := q.2) ?_
    rw [h1, zac]; unfold zci at hq; simp only [zad, zae] at hq ⊢
    obtain ⟨y, g1, z, g2, g3, g4⟩ := hq
    exact ⟨y, g1, u, h2, z, g2, g3, p, zvd he h3, g4⟩
   ·exact lt h
  ·cases h
end
end Go.Am
