/- Code as a function: all functions of a program; what a value is worth. -/
import Derived.Test.YtbgilkcahebbfaaGreatDoorA05
set_option linter.all false
noncomputable section
namespace Go.Am
open Go Go.RowKit
def endK (C : Ctx) (fn : Func) (tm : Tm) (H : zaf) : zbg := ob (zf2 C H tm fn.results.toList) fun l => some (zkl l, H)
def z92 (C : Ctx) (fn : Func) : Kt := ⟨endK C fn, fun _ _ _ => none, endK C fn⟩
def zle (ops : List Oper) : Bool := zgv (fun o => match o.op with | .move _ => zb2 o.guard | .assign _ => zb2 o.guard | _ => false) ops
def zlh (c : zbv) : Option zz0 := match zdz c with | [q] => some q | _ => none
def rdOk (r : zk2) (q : zz0) : Prop := r.assign = .region q.id q.ops false /\ r.body = zcw q.c /\ r.params = q.ps.toList /\ LoopState.tag r.state = 0 /\ zle q.ops.toList = true /\ zdz q.c = []
def zzs (r : zk2) : zk2 := ⟨.busy, r.pending, r.fn, r.n, r.tm, r.params, r.assign, r.body, r.defers⟩
def zty (b : Bool) (r : zk2) : zk2 := ⟨if b then .ready else .done, if b then none else some .ret, r.fn, r.n, r.tm, r.params, r.assign, r.body, r.defers⟩
def rdK : Kt := ⟨fun _ H => some (.bool true, H), fun _ _ _ => none, fun _ H => some (.bool false, H)⟩
def zzct (C : Ctx) (φ : Ora) (fn n : Nat) (q : zz0) (tm : Tm) (H : zaf) : zbg := den C φ fn n (.seq (.region q.id q.ops false) q.c) rdK tm H
def zpi (C : Ctx) (A : Tr zbv) (φ : Ora) (l : Nat) (args : List zab) (H : zaf) : zbg :=
 ob (zdr H l) fun r => ob (zdx r.n r.params args r.tm) fun tm => ob (A.get r.fn) fun c => ob (zlh c) fun q => @ite _ (rdOk r q) (Classical.propDecidable _)
  (ob (zzct C φ r.fn r.n q tm (setBlk H l (.loop (zzs r)))) fun x => ob (zdr x.2 l) fun r2 => ob x.1.asBool fun b => some (.bool b, setBlk x.2 l (.loop (zty b r2)))) none
def z4g (C : Ctx) (A : Tr zbv) (φ : Ora) (f : Nat) (args : List zab) (H : zaf) : zbg :=
 ob (A.get f) fun c => ob (C.fns.get f) fun fn => ob (zey C f args false) fun g => den C φ f fn.ntmps c (z92 C fn) g.tm H
def zya (C : Ctx) (A : Tr zbv) (φ : Ora) : Ora
 | .func f => z4g C A φ f
 | .yld l => zpi C A φ l
def zzdt (C : Ctx) (A : Tr zbv) : Nat -> Ora
 | 0 => fun _ _ _ => none
 | n + 1 => zya C A (zzdt C A n)
def fnV (C : Ctx) (A : Tr zbv) : Ora := fun f args H => lim fun n => zzdt C A n f args H
section
variable {C : Ctx} {A : Tr zbv}
theorem ze9 {φ : Ora} {l : Nat} {args : List zab} {H : zaf} {x : zab × zaf} : zpi C A φ l args H = some x ↔ ∃ r tm c q y r2 b, zdr H l = some r /\ zdx r.n r.params args r.tm = some tm /\ A.get r.fn = some c /\ zlh c = some q /\ rdOk r q /\ zzct C φ r.fn r.n q tm (setBlk H l (.loop (zzs r))) = some y /\ zdr y.2 l = some r2 /\ y.1 = .bool b /\ x = (.bool b, setBlk y.2 l (.loop (zty b r2))) := by
 unfold zpi; simp only [zac]; constructor
 ·rintro ⟨r, h1, tm, h2, c, h3, q, h4, h⟩
  by_cases hq : rdOk r q
  ·rw [if_pos hq] at h
   simp only [zac] at h; obtain ⟨y, h5, r2, h6, b, h7, h8⟩ := h
   exact ⟨r, tm, c, q, y, r2, b, h1, h2, h3, h4, hq, h5, h6, zdd.1 h7, by cases h8; rfl⟩
  ·rw [if_neg hq] at h; cases h
 ·rintro ⟨r, tm, c, q, y, r2, b, h1, h2, h3, h4, hq, h5, h6, h7, h8⟩
  refine ⟨r, h1, tm, h2, c, h3, q, h4, ?_⟩
  rw [if_pos hq]; simp only [zac]; exact ⟨y, h5, r2, h6, b, zdd.2 h7, by rw [h8]⟩
theorem zrs {φ φ' : Ora} (h : OLe φ φ') : OLe (zya C A φ) (zya C A φ') := by
 intro f args H x hx
 cases f with
 | yld l =>
  have hx : zpi C A φ l args H = some x := hx
  obtain ⟨r, tm, c, q, y, r2, b, h1, h2, h3, h4, hq, h5, h6, h7, h8⟩ := ze9.1 hx
  exact ze9.2 ⟨r, tm, c, q, y, r2, b, h1, h2, h3, h4, hq, zic h _ _ _ (KLe.refl _) _ _ _ h5, h6, h7, h8⟩
 | func f =>
 have hx : z4g C A φ f args H = some x := hx
 show z4g C A φ' f args H = some x
 unfold z4g at hx ⊢
 rw [zac] at hx ⊢
 obtain ⟨c, h1, hx⟩ := hx
 refine ⟨c, h1, ?_⟩
 rw [zac] at hx ⊢
 obtain ⟨fn, h2, hx⟩ := hx
 refine ⟨fn, h2, ?_⟩
 rw [zac] at hx ⊢
 obtain ⟨g, h3, hx⟩ := hx
 exact ⟨g, h3, zic h c _ _ (KLe.refl _) _ _ _ hx⟩
theorem z6y : ∀ n, OLe (zzdt C A n) (zzdt C A (n + 1)) := by
 intro n; induction n with
 | zero => intro f args H x h; cases h
 | succ n ih => exact zrs ih
theorem zh9 {f : AFn} {args : List zab} {H : zaf} {x : zab × zaf} : fnV C A f args H = some x ↔ ∃ n, zzdt C A n f args H = some x :=
 zom fun n _ hy => z6y n _ _ _ _ hy
theorem z8j : zzc4 (zzdt C A) (fnV C A) := ⟨z6y, fun _ _ _ _ h => zh9.1 h⟩
theorem zzef (f : AFn) (args : List zab) (H : zaf) : fnV C A f args H = zya C A (fnV C A) f args H := by
 have key : ∀ x, fnV C A f args H = some x ↔ zya C A (fnV C A) f args H = some x := by
  intro x; constructor
  ·intro h
   obtain ⟨n, hn⟩ := zh9.1 h
   cases n with
   | zero => cases hn
   | succ n => exact zrs (fun f a H y hy => zh9.2 ⟨n, hy⟩) _ _ _ _ hn
  ·intro h
   cases f with
   | yld l =>
    have h : zpi C A (fnV C A) l args H = some x := h
    obtain ⟨r, tm, c, q, y, r2, b, h1, h2, h3, h4, hq, h5, h6, h7, h8⟩ := ze9.1 h
    have sup : zzgt (fun _ => rdK) rdK := ⟨⟨fun _ _ _ _ h => h, fun _ _ _ h => ⟨0, h⟩⟩, fun i => ⟨fun _ _ _ _ h => h, fun _ _ _ h => ⟨0, h⟩⟩, ⟨fun _ _ _ _ h => h, fun _ _ _ h => ⟨0, h⟩⟩⟩
    obtain ⟨n, hn⟩ := (zzl z8j _ _ _ sup).ex _ _ _ h5
    exact zh9.2 ⟨n + 1, ze9.2 ⟨r, tm, c, q, y, r2, b, h1, h2, h3, h4, hq, hn, h6, h7, h8⟩⟩
   | func f =>
   have h : z4g C A (fnV C A) f args H = some x := h
   unfold z4g at h; rw [zac] at h; obtain ⟨c, h1, h⟩ := h
   rw [zac] at h; obtain ⟨fn, h2, h⟩ := h
   rw [zac] at h; obtain ⟨g, h3, h⟩ := h
   have sup : zzgt (fun _ => z92 C fn) (z92 C fn) := ⟨⟨fun _ _ _ _ h => h, fun _ _ _ h => ⟨0, h⟩⟩, fun i => ⟨fun _ _ _ _ h => h, fun _ _ _ h => ⟨0, h⟩⟩, ⟨fun _ _ _ _ h => h, fun _ _ _ h => ⟨0, h⟩⟩⟩
   obtain ⟨n, hn⟩ := (zzl z8j c _ _ sup).ex _ _ _ h
   refine zh9.2 ⟨n + 1, ?_⟩
   show z4g C A (zzdt C A n) f args H = some x
   unfold z4g; rw [h1, zad, h2, zad, h3, zad]; exact hn
 cases h : fnV C A f args H with
 | some x => exact ((key x).1 h).symm
 | none =>
  cases h2 : zya C A (fnV C A) f args H with
  | none => rfl
  | some x => rw [(key x).2 h2] at h; cases h
def zk1 (C : Ctx) (A : Tr zbv) : Prop := ∀ f c, A.get f = some c -> ∃ fn, C.fns.get f = some fn /\ fn.body = some (zcw c)
theorem zzf {f : Nat} {args : List zab} {g : zan} (h : zey C f args false = some g) : ∃ fn c, C.fns.get f = some fn /\ fn.body = some c /\ g.todo = [.code c] /\ g.R = ⟨f, fn.ntmps, [], .run, false, none⟩ := by
 unfold zey at h; simp only [zac, zae] at h; obtain ⟨fn, h1, c, h2, k, h3, _, h⟩ := h
 cases h; exact ⟨fn, c, h1, h2, rfl, rfl⟩
theorem zjo {α β : Type} {f g : α -> Option β} : ∀ (l : List α) {r : List β}, (∀ a b, f a = some b -> g a = some b) -> zd7 f l = some r -> zd7 g l = some r := by
 intro l; induction l with
 | nil => intro r _ h; exact h
 | cons a l ih =>
  intro r hfg h; rw [zcb, zac] at h ⊢
  obtain ⟨b, h1, h⟩ := h
  refine ⟨b, hfg _ _ h1, ?_⟩
  rw [zac] at h ⊢
  obtain ⟨s, h2, h⟩ := h
  exact ⟨s, ih hfg h2, h⟩
def zzgu (C : Ctx) (f : Nat) (acs : List zan) : zzem := fun ds o x => ∃ fr', o = .next ⟨fr', acs, x.2⟩ /\ zur C f ds fr' x.2 x.1
theorem zyf {H : zaf} {tm : Tm} {r : Nat} {d e : Option (List zod)} (hr : H.t.get r = some (.deferred d)) : ∀ (l : List ResultVar) vs, zf2 C H tm l = some vs -> zf2 C (setBlk H r (.deferred e)) tm l = some vs := by
 intro l vs h; refine zjo l (fun rv v h => ?_) h
 cases rv with
 | tmp t => exact h
 | cell a t =>
  have h : (ob (ob (tm.get a) zab.asPtr) fun p => ob (C.tys.get t) fun ty => ob (zaq H p.1) fun c => zmw ty c.1 p.2) = some v := h
  show (ob (ob (tm.get a) zab.asPtr) fun p => ob (C.tys.get t) fun ty => ob (zaq (setBlk H r (.deferred e)) p.1) fun c => zmw ty c.1 p.2) = some v
  simp only [zac] at h ⊢
  obtain ⟨p, hp, ty, ht, c, hc, hv⟩ := h
  refine ⟨p, hp, ty, ht, c, ?_, hv⟩
  unfold zaq at hc ⊢
  rw [zac] at hc ⊢
  obtain ⟨y, h1, h2⟩ := hc
  refine ⟨y, ?_, h2⟩
  show (H.t.set r (.deferred e)).get p.1 = some y
  rw [Tr.get_set, if_neg fun e => by rw [e, hr] at h1; cases h1; cases h2]
  exact h1
theorem zzca {f N : Nat} {acs : List zan} : z4b C (zzgu C f acs) (fun _ => True) f N none acs := by
 refine ⟨?_, fun _ _ => trivial, ?_⟩
 ·rintro ds todo tm H x ⟨fr', h1, h2⟩
  cases h1; have := h2.1
  cases this
 ·rintro _ r ds o x ⟨fr', rfl, h1, h2, h3, h4, fn, l, h5, h6, h7⟩ hd
  obtain ⟨todo, tm, ffn, n, defers, mode, deferred, round⟩ := fr'
  simp only at h1 h2 h3 h4 h6
  subst h1 h2 h3 h4
  have hr : x.2.t.get r = some (.deferred (some [])) := by
   unfold zfk at hd; rw [zae, zac] at hd; obtain ⟨_, y, e1, e2⟩ := hd
   cases y <;> cases e2
   exact e1
  refine ⟨_, .step ?_, ⟨⟨todo, tm, ⟨ffn, n, ds, .returning, false, round⟩⟩, rfl, rfl, rfl, rfl, rfl, fn, l, h5, zyf hr _ _ h6, h7⟩⟩
  show zij C (zvd C ⟨none, r, []⟩ ds ⟨todo, tm, ⟨ffn, n, ⟨none, r, []⟩ :: ds, .returning, false, round⟩⟩ acs x.2) _
  unfold zvd; simp only [hd, zad]; exact .refl _
theorem z1v {f : Nat} {fn : Func} {acs : List zan} {x : zab × zaf} {ds : List zod} (hf : C.fns.get f = some fn) {tm : Tm} {H : zaf} (h : endK C fn tm H = some x) {todo : List zb0} {N : Nat}
  (hs : zlz C todo tm (RR f N none ds) acs H = .next ⟨zpf ⟨todo, tm, RR f N none ds⟩ .returning, acs, H⟩) : Fin C (zzgu C f acs) ds (.next ⟨⟨todo, tm, RR f N none ds⟩, acs, H⟩) x := by
 unfold endK at h; rw [zac] at h; obtain ⟨l, h1, h2⟩ := h
 cases h2; refine .step ?_
 rw [zb4 rfl, hs]; exact ⟨_, .refl _, _, rfl, rfl, rfl, rfl, rfl, fn, l, hf, h1, rfl⟩
def RdG (l : Nat) (c : zan) : zab × zaf -> Prop := fun x => ∃ b r2 c', x.1 = .bool b /\ zdr x.2 l = some r2 /\ zbr c (.bool b) = some c'
def RdEnd (l : Nat) (c : zan) (acs : List zan) : zzem := fun _ o x => ∃ b r2 c', x.1 = .bool b /\ zdr x.2 l = some r2 /\ zbr c (.bool b) = some c' /\ o = .next ⟨c', acs, setBlk x.2 l (.loop (zty b r2))⟩
theorem len_ne {α : Type} {a : α} {l : List α} : l ≠ a :: l := fun e => by have := congrArg List.length e; simp at this
theorem z32 {C : Ctx} {φ : Ora} {all : Array Oper} {n : Nat} {κn : Tm -> zaf -> zbg} : ∀ (l : List Oper) (tm : Tm) (H1 : zaf) (x : zab × zaf), zle l = true -> zuu C φ all n κn l tm H1 = some x -> ∃ tm', κn tm' H1 = some x /\ ∀ (k : List zb0) (R : zf8) (cs : List zan) (H : zaf), R.n = n -> zi0 C all k R cs l tm H = xGo k tm' R cs H := by
 intro l; induction l with
 | nil => intro tm H1 x _ h; exact ⟨tm, h, fun _ _ _ _ _ => rfl⟩
 | cons o l ih =>
  intro tm H1 x hp h; have hp : (bif (match o.op with | .move _ => zb2 o.guard | .assign _ => zb2 o.guard | _ => false) then zle l else false) = true := hp
  have hp1 : (match o.op with | .move _ => zb2 o.guard | .assign _ => zb2 o.guard | _ => false) = true := by
   cases hx : (match o.op with | .move _ => zb2 o.guard | .assign _ => zb2 o.guard | _ => false) with
   | true => rfl
   | false => rw [hx] at hp; cases hp
  rw [hp1] at hp; have hp : zle l = true := hp
  have hmv : ∃ u, (∀ H, (aop o.op).f C (.now tm) H = lv (zpx u) C (.now tm) H) /\ zb2 o.guard = true := by
   cases ho : o.op <;> rw [ho] at hp1 <;> first
    | (cases hp1; done)
    | exact ⟨_, fun _ => rfl, hp1⟩
  obtain ⟨u, hu, hg⟩ := hmv
  have hw : za1 o.guard all tm = some true := by
   cases hx : o.guard with
   | none => rfl
   | some g => rw [hx] at hg; cases hg
  rw [zgj, hw, zad, if_pos rfl, hu] at h
  cases hv : ev u (.now tm) with
  | none =>
   have : lv (zpx u) C (.now tm) H1 = .fail := by unfold lv zpx; rw [hv]
   rw [this] at h; cases h
  | some v =>
   have hval : ∀ H, lv (zpx u) C (.now tm) H = .val v H := fun H => by unfold lv zpx; rw [hv]
   rw [hval] at h; simp only [zio, zbz] at h; obtain ⟨tm', h1, h2⟩ := ih _ _ _ hp h.2
   refine ⟨tm', h1, fun k R cs H hR => ?_⟩
   rw [zkr, hw]; simp only []; rw [hu, hval]; simp only [zq3.asVal]; rw [hR]; exact h2 k R cs H hR
theorem zvp {φ : Ora} (hφ : zki C φ) {l : Nat} {args : List zab} {H : zaf} {x : zab × zaf} (h : zpi C A φ l args H = some x) :
  ∃ r tm, zdr H l = some r /\ zdx r.n r.params args r.tm = some tm /\ ∀ c acs c', zbr c x.1 = some c' -> zij C (.next ⟨zye r l tm, c :: acs, H⟩) (.next ⟨c', acs, x.2⟩) := by
 obtain ⟨r, tm, cc, q, y, r2, b, h1, h2, h3, h4, ⟨q1, q2, q3, q4, q5, q6⟩, h5, h6, h7, rfl⟩ := ze9.1 h
 refine ⟨r, tm, h1, h2, fun c acs c' hc => ?_⟩
 have h5 : zuu C φ q.ops r.n (den C φ r.fn r.n q.c rdK) q.ops.toList tm.cut (setBlk H l (.loop (zzs r))) = some y := h5
 obtain ⟨tm', h8, h9⟩ := z32 _ _ _ _ q5 h5
 unfold zye; rw [q1, q2]; refine .step ?_
 rw [zb4 rfl]; show zij C (zi0 C q.ops _ _ _ q.ops.toList tm.cut H) _
 rw [h9 _ _ _ _ rfl]; refine .step ?_
 show zij C (zlz C (.beginRound :: [.code (zcw q.c)]) tm' ⟨r.fn, r.n, [], .run, false, some l⟩ (c :: acs) H) _
 have hb : zlz C (.beginRound :: [.code (zcw q.c)]) tm' ⟨r.fn, r.n, [], .run, false, some l⟩ (c :: acs) H = .next ⟨⟨[.code (zcw q.c)], tm', RR r.fn r.n (some l) []⟩, c :: acs, setBlk H l (.loop (zzs r))⟩ := by
  show zu0 C [.code (zcw q.c)] tm' _ (c :: acs) H = _
  unfold zu0; simp only [zad]; rw [h1, zad, q4]; rfl
 rw [hb]; have hc : zbr c (.bool b) = some c' := hc
 have hE : z4b C (RdEnd l c acs) (RdG l c) r.fn r.n (some l) (c :: acs) := by
  refine ⟨?_, fun e => (by cases e), fun e => (by cases e)⟩
  rintro ds todo tm H x ⟨b, r2, c', _, _, _, e⟩
  injection e with e
  injection e with _ e _
  exact len_ne e.symm
 have hK : z12 C (RdEnd l c acs) (RdG l c) r.fn r.n (some l) (c :: acs) rdK [] := by
  refine ⟨?_, fun _ _ _ _ _ _ h => (by cases h), ?_⟩
  ·rintro ds x tm H ⟨b, r2, c', g1, g2, g3⟩ h
   cases h
   cases g1
   refine .step ?_
   rw [zb4 rfl]; have : zlz C [] tm (RR r.fn r.n (some l) ds) (c :: acs) H = .next ⟨c', acs, setBlk H l (.loop (zty true r2))⟩ := by
    have e0 : zlz C [] tm (RR r.fn r.n (some l) ds) (c :: acs) H = zhu none C ⟨[], tm, RR r.fn r.n (some l) ds⟩ (c :: acs) H := rfl
    rw [e0]; unfold zhu; simp only [g2, zad]; show zhf (ob (zbr c (.bool true)) _) 7 = _
    rw [g3]; rfl
   rw [this]; exact ⟨_, .refl _, true, r2, c', rfl, g2, g3, rfl⟩
  ·rintro ds x tm H ⟨b, r2, c', g1, g2, g3⟩ h k'
   cases h
   cases g1
   refine .step ?_
   rw [zb4 rfl]; have : zlz C (.code .ret :: k') tm (RR r.fn r.n (some l) ds) (c :: acs) H = .next ⟨c', acs, setBlk H l (.loop (zty false r2))⟩ := by
    have e0 : zlz C (.code .ret :: k') tm (RR r.fn r.n (some l) ds) (c :: acs) H = zhu (some .ret) C ⟨.code .ret :: k', tm, RR r.fn r.n (some l) ds⟩ (c :: acs) H := rfl
    rw [e0]; unfold zhu; simp only [g2, zad]; show zhf (ob (zbr c (.bool false)) _) 7 = _
    rw [g3]; rfl
   rw [this]; exact ⟨_, .refl _, false, r2, c', rfl, g2, g3, rfl⟩
 obtain ⟨o', k1, b', r2', c'', k2, k3, k4, rfl⟩ := zwv hφ hE q.c rdK [] (Or.inr q6) hK [] y tm' _ ⟨b, r2, c', h7, h6, hc⟩ h8
 rw [h7] at k2; cases k2
 rw [h6] at k3; cases k3
 rw [hc] at k4; cases k4
 exact k1
theorem zx9 (hA : zk1 C A) {φ : Ora} (hφ : zki C φ) : zki C (zya C A φ) := by
 refine ⟨fun f args H x h => ?_, fun l args H x h => zvp hφ h⟩
 have h : z4g C A φ f args H = some x := h
 unfold z4g at h; rw [zac] at h; obtain ⟨c, h1, h⟩ := h
 rw [zac] at h; obtain ⟨fn, h2, h⟩ := h
 rw [zac] at h; obtain ⟨g, h3, h⟩ := h
 refine ⟨g, h3, fun acs => ?_⟩
 obtain ⟨fn', c', e1, e2, e3, e4⟩ := zzf h3
 rw [h2] at e1; cases e1
 obtain ⟨fn', e5, e6⟩ := hA f c h1
 rw [h2] at e5; cases e5
 rw [e2] at e6; cases e6
 obtain ⟨gt, gtm, gR⟩ := g
 simp only at e3 e4 h
 subst e3 e4
 have hK : z12 C (zzgu C f acs) (fun _ => True) f fn.ntmps none acs (z92 C fn) [] := ⟨fun ds x tm H _ h => z1v h2 h rfl, fun ds x i tm H _ h => (by cases h), fun ds x tm H _ h k' => z1v h2 h rfl⟩
 obtain ⟨o', k1, fr', rfl, k2⟩ := zwv hφ zzca c (z92 C fn) [] (Or.inl rfl) hK [] x gtm H trivial h
 exact ⟨fr', k1, k2⟩
theorem zsc (hA : zk1 C A) : ∀ n, zki C (zzdt C A n) := by
 intro n; induction n with
 | zero => exact ⟨fun f args H x h => (by cases h), fun l args H x h => (by cases h)⟩
 | succ n ih => exact zx9 hA ih
theorem z8k (hA : zk1 C A) : zki C (fnV C A) := by
 refine ⟨fun f args H x h => ?_, fun f args H x h => ?_⟩
 ·obtain ⟨n, hn⟩ := zh9.1 h
  exact (zsc hA n).fn _ _ _ _ hn
 ·obtain ⟨n, hn⟩ := zh9.1 h
  exact (zsc hA n).rd _ _ _ _ hn
theorem zw0 {P : Program} {B N : Nat} {I : World -> Prop} {μ : Mu} {w : World} (hS : Sim P C B N I) (hI : I w) (hA : zk1 C A) {f : Nat} {args : List zab} {args' : Array Value} {H H' : zaf} {v : zab} (hH : za3 B N μ H w) (hl : za9 μ args args'.toList)
  (h : fnV C A (.func f) args H = some (v, H')) : Calls P f args' w fun e w' => ∃ v' μ', e = .returned v' /\ μ.lw μ' /\ zal μ' v v' /\ za3 B N μ' H' w' /\ Below N w w' := by
 intro base; obtain ⟨g, he, hr⟩ := (z8k hA).fn _ _ _ _ h
 obtain ⟨fr', r1, h1, h2, h3, h4, fn, l, h5, h6, rfl⟩ := hr []
 have h0 : zbt P C B N μ base (lone (Frame.enter P f args' .normal) base w) w (.next ⟨g, [], H⟩) := zzap hS.fns hH hl he
 obtain ⟨μ', b, cs, w', s1, s2, s3, s4, s5, s6⟩ := zbt.reach hS hI r1 h0
 cases s6
 have hb := s5.body
 rw [if_neg (by rw [h1]; simp [zri.running])] at hb
 obtain ⟨v', q1, q2⟩ := zr1 hS.tys s4 hb h6
 have hm := s5.rest.mode
 rw [h1] at hm; have hbm : b.mode = .returning := by
  cases hb : b.mode with
  | returning => rfl
  | _ => rw [hb] at hm; exact hm.elim
 have hd := s5.rest.defers
 rw [h2] at hd; have hbd : b.defers = [] := by
  generalize hx : b.defers = bd at hd
  cases hd; rfl
 have hk := s5.rest.kind
 rw [h3] at hk; have hfn : b.fn = f := by rw [s5.rest.fn, h4]
 exact ⟨.returned v', w', b, ⟨v', μ', rfl, s2, q2, s4, s3⟩, s1, hfn, hbm, hbd, hk, fn, by rw [hfn]; exact (hS.fns _ _ h5).1, q1⟩
end
end Go.Am
namespace Go.Am
open Go Go.RowKit
def za2 (C : Ctx) (t : Nat) (H : zaf) (v : zab) : Option zab := ob v.asPtr fun p => ob (C.tys.get t) fun ty => ob (zaq H p.1) fun c => zmw ty c.1 p.2
def zkk (C : Ctx) (s d : Nat) (H : zaf) (a : zab) : Option zab := ob (C.tys.get s) fun s => ob (C.tys.get d) fun d => znc C s d a H
def zcr (C : Ctx) (t : Nat) (H : zaf) (a : zab) (l h : Option zab) : Option zab := ob (C.tys.get t) fun ty => zfx C H ty a l h
def zo2 (C : Ctx) (s f : Nat) : Option Nat := ob (C.tys.get s) fun ty => ob ty.desc.asStruct fun fs => ob (zds fs f) fun fd => zah (!Nat.beq fd.2.2 0) (some fd.1)
def zjj (C : Ctx) (s f : Nat) (v : zab) : Option zab := ob (zo2 C s f) fun k => ob v.asPtr fun p => some (.ptr p.1 (p.2 + k))
def zaj (C : Ctx) (t : Nat) (v i : zab) : Option zab :=
 ob (C.tys.get t) fun ty => ob i.asNat fun i =>
  match v.asSlice with
  | some s => ob ty.desc.asSlice fun el => ob (C.tys.get el) fun et => zah (Nat.blt i s.2.2.1) (some (.ptr s.1 (s.2.1 + i * et.size)))
  | none => ob v.asPtr fun p => ob ty.desc.asArr fun a => ob (C.tys.get a.2) fun et => zah (Nat.blt i a.1) (some (.ptr p.1 (p.2 + i * et.size)))
def z0a (C : Ctx) (t i : Nat) : Option Nat := ob (C.tys.get t) fun ty => ob ty.desc.asArr fun a => ob (C.tys.get a.2) fun et => zah (Nat.blt i a.1) (some (i * et.size))
def zu7 (C : Ctx) (t : Nat) (v i : zab) : Option zab :=
 ob (C.tys.get t) fun ty => ob i.asNat fun i =>
  match v.asStr with
  | some s => zah ty.desc.isString (ob (zds s i) fun b => some (.int .u8 (.ofNat b)))
  | none => ob v.asAgg fun l => ob ty.desc.asArr fun a => ob (C.tys.get a.2) fun et => zah (Nat.blt i a.1) (zkt C a.2 l (i * et.size))
def zao (i : Nat) (v : zab) : Option zab := ob v.asTup fun l => zds l i
def z4d (C : Ctx) (t : Nat) (H : zaf) (v : zab) : Option zab := ob (C.tys.get t) fun ty => ob (z4f H ty v) fun n => some (.int .i64 (.ofNat n))
def zbw (v : zab) : Option zab :=
 match v.asSlice with
 | some s => some (.int .i64 (.ofNat s.2.2.1))
 | none => zah (Nat.beq v.tag 5) (some (.int .i64 (.ofNat 0)))
def vNil (v : zab) : Option zab := zah (Nat.beq v.tag 4 || Nat.beq v.tag 9) (some v)
def zxz (C : Ctx) (u : Nat) (ok : Bool) (v : zab) : Option zab :=
 ob (C.tys.get u) fun ty => zah (Nat.blt ty.desc.tag 9) (
  match v.asIface with
  | some p => bif Nat.beq p.1 u then some (bif ok then .tup [p.2, .bool true] else p.2) else zah ok (some (.tup [zq4 ty, .bool false]))
  | none => zah (Nat.beq v.tag 12 && ok) (some (.tup [zq4 ty, .bool false])))
def zmj (C : Ctx) (t : Nat) (H : zaf) (m k : zab) (ok : Bool) : Option zab :=
 ob (C.tys.get t) fun ty => ob ty.desc.asMap fun ke => ob (C.tys.get ke.1) fun kty => zah (zkc C kty) (ob (C.tys.get ke.2) fun ety =>
  ob (ztx H m) fun es => zah (zft C kty k) (ob (zhj k es) fun r =>
   match r with
   | some v => some (bif ok then .tup [v, .bool true] else v)
   | none => some (bif ok then .tup [zq4 ety, .bool false] else zq4 ety)))
def znl (C : Ctx) (t : Nat) (H : zaf) : Option (zab × zaf) := ob (C.tys.get t) fun ty => some (.ptr H.next 0, zaw H ty.zero none)
def zzdb (v : zab) (H : zaf) : Option (zab × zaf) := some (.ptr H.next 0, zaw H v.cells none)
def zs3 (C : Ctx) (t : Nat) (H : zaf) : Option (zab × zaf) := ob (C.tys.get t) fun ty => some (.ptr H.next 0, zaw H ty.zero (zhn C t))
def zzex (C : Ctx) (t : Nat) (v : zab) (H : zaf) : Option (zab × zaf) := some (.ptr H.next 0, zaw H v.cells (zhn C t))
def zaz (C : Ctx) (t len : Nat) (ps : List (Nat × zab)) (H : zaf) : Option (zab × zaf) :=
 ob (C.tys.get t) fun ty => ob ty.desc.asSlice fun el => ob (C.tys.get el) fun et =>
  zah (Nat.blt (len * et.size) 1000000 && Nat.beq (zbp et.zero) et.size) (ob (zob (fun i => some (i * et.size, et.size)) ps (zut et.zero len)) fun l => some (.slice H.next 0 len len, zaw H l none))
def zb6 (C : Ctx) (t : Nat) (a v : zab) (H : zaf) : Option (zab × zaf) := ob (C.tys.get t) fun ty => ob a.asPtr fun p => zah (Nat.beq (zbp v.cells) ty.size) (ob (zd3 C H p.1 p.2 v.cells) fun H' => some (zba, H'))
def zz9 (H : zaf) : Option (zab × zaf) := some (.map H.next, newBlk H (.map []))
def zs0 (C : Ctx) (t : Nat) (m k v : zab) (H : zaf) : Option (zab × zaf) :=
 ob (C.tys.get t) fun ty => ob ty.desc.asMap fun ke => ob (C.tys.get ke.1) fun kty => zah (zkc C kty)
  (ob m.asMap fun b => zah (!Nat.blt b C.base) (ob (ze0 H b) fun l => zah (zft C kty k) (ob (zd6 k v l) fun l' => some (zba, setBlk H b (.map l')))))
def zcp (C : Ctx) (t : Nat) (l c : zab) (H : zaf) : Option (zab × zaf) :=
 ob (C.tys.get t) fun ty => ob ty.desc.asSlice fun el => ob (C.tys.get el) fun et => ob l.asNat fun l => ob c.asNat fun c =>
  zah (Nat.ble l c && Nat.blt c 1000000 && Nat.blt (c * et.bytes) 1000000000 && Nat.beq (zbp et.zero) et.size) (some (.slice H.next 0 l c, zaw H (zut et.zero c) none))
def zs1 (C : Ctx) (s d : Nat) (v : zab) (H : zaf) : Option (zab × zaf) :=
 ob (C.tys.get s) fun _ => ob (C.tys.get d) fun ty => ob ty.desc.asSlice fun el => ob (C.tys.get el) fun et => ob et.desc.asInt fun k => zah (kEq k .u8) (ob v.asStr fun l =>
  some (.slice H.next 0 (zbp l) (zbp l), zaw H (zez l) (some (.ty el))))
def zcd (C : Ctx) (t u : Nat) (a b : zab) (H : zaf) : Option (zab × zaf) := ob (C.tys.get t) fun ty => ob (C.tys.get u) fun uty => zah (!Nat.beq uty.desc.tag 1) (zih C H ty a b)
def vNext (v : zab) (H : zaf) : Option (zab × zaf) := ob v.asPtr fun p => zah (Nat.beq p.2 0) (ob (ob (H.t.get p.1) zam.asIter) fun x =>
 match zds x.1 x.2 with
 | some c => zah (Nat.blt c 128) (some (.tup [.bool true, .int .i64 (.ofNat x.2), .int .i32 (.ofNat c)], setBlk H p.1 (.siter x.1 (x.2 + 1))))
 | none => some (.tup [.bool false], H))
structure z9z where
 b : Nat -> Bool
 i : Nat -> Int
 s : Nat -> List Nat
 v : Nat -> zab
inductive T where
 | ret (v : zab)
 | fail
 | ite (b : Bool) (x y : T)
 | opt (x : Option zab) (K : zab -> T)
 | light (x : Tr zam -> Option zab) (K : zab -> T)
 | heavy (x : zaf -> Option (zab × zaf)) (K : zab -> T)
 | call (f : Nat) (args : List zab) (K : zab -> T)
 | callv (f : zab) (args : List zab) (K : zab -> T)
 | asI (k : IntKind) (v : zab) (K : Int -> T)
 | asB (v : zab) (K : Bool -> T)
 | asS (v : zab) (K : List Nat -> T)
 | asG (zs : List zab) (v : zab) (K : z9z -> T)
 | jump (i : Nat) (vals : List zab)
 | range (np : Nat -> Bool) (f : zab) (i m : Nat) (vals : List zab) (K R : T)
def yo : Nat := 1099511627776
def z60 (z : zab) (X : z9z) (j : Nat) : zab :=
 match z with
 | .bool _ => .bool (X.b j)
 | .int k _ => .int k (X.i j)
 | .str _ => .str (X.s j)
 | _ => X.v j
def zmt (zs : List zab) (X : z9z) : Nat -> List zab :=
 List.rec (motive := fun _ => Nat -> List zab) (fun _ => []) (fun z _ g j => z60 z X j :: g (j + 1)) zs
def zsu (l : List zab) (j : Nat) : Bool := match l[j]? with | some (.bool b) => b | _ => false
def zzfy (l : List zab) (j : Nat) : Int := match l[j]? with | some (.int _ n) => n | _ => 0
def strAt (l : List zab) (j : Nat) : List Nat := match l[j]? with | some (.str s) => s | _ => []
def z4p (l : List zab) (j : Nat) : zab := match l[j]? with | some v => v | _ => .nilptr
def cellsOf (l : List zab) : z9z := ⟨zsu l, zzfy l, strAt l, z4p l⟩
def zzcc (z a : zab) : Bool :=
 match z with
 | .bool _ => Nat.beq a.tag 0
 | .int k _ => match a.asIntK with | some p => kEq p.1 k | none => false
 | .str _ => Nat.beq a.tag 2
 | .nilptr => Nat.beq a.tag 3 || Nat.beq a.tag 4
 | .nilslice => Nat.beq a.tag 5 || Nat.beq a.tag 6
 | .nilmap => Nat.beq a.tag 7 || Nat.beq a.tag 8
 | .nilfunc => Nat.beq a.tag 10 || Nat.beq a.tag 9
 | .niliface => Nat.beq a.tag 12 || Nat.beq a.tag 11
 | _ => false
def zly : List zab -> List zab -> Bool
 | [], [] => true
 | z :: zs, a :: l => zzcc z a && zly zs l
 | _, _ => false
structure TSt where
 tm : Tm
 ad : List (Nat × Nat × Nat)
 lo : Tr (List zab)
 lit : List Nat
abbrev KT := TSt -> T
structure KtT where
 norm : KT
 exit : Nat -> KT
 ret : KT
def obT {α : Type} (x : Option α) (K : α -> T) : T := Option.rec (motive := fun _ => T) .fail K x
def gdT (b : Bool) (K : T) : T := Bool.rec (motive := fun _ => T) .fail K b
def zfr (i : Nat) (l : List (Nat × Nat × Nat)) : Option (Nat × Nat) :=
 List.rec (motive := fun _ => Option (Nat × Nat)) none (fun a _ g => Bool.rec (motive := fun _ => Option (Nat × Nat)) g (some a.2) (Nat.beq i a.1)) l
inductive zux where
 | now (ad : List (Nat × Nat × Nat))
 | mixed (ad old : List (Nat × Nat × Nat)) (olds names : List Nat)
def tAd (e : zux) (t : Nat) : Option (Nat × Nat) :=
 match e with
 | .now ad => zfr t ad
 | .mixed ad old olds names => bif zb1 t names then zfr t (bif zb1 t olds then old else ad) else none
def xAd (e : zux) (x : Operand) : Option (Nat × Nat) :=
 match x with
 | .tmp t => tAd e t
 | _ => none
def H0A : zaf := ⟨0, .leaf⟩
def zj6 (C : Ctx) (t : Nat) : Nat :=
 match C.tys.get t with
 | some ty => ty.desc.tag
 | none => 10
def zt2 (x : Operand) : Bool :=
 match x with
 | .const _ => true
 | _ => false
def z84 (x : Operand) : Bool :=
 match x with
 | .const (.int _ n) => !iEq n 0
 | _ => false
def binDir (C : Ctx) (op : BinOp) (t : Nat) (y : Operand) : Bool :=
 match op with
 | .add => Nat.beq (zj6 C t) 1
 | .sub => true
 | .mul => true
 | .quo => z84 y
 | .rem => z84 y
 | .shl => zt2 y
 | .shr => zt2 y
 | .eql => Nat.ble (zj6 C t) 2
 | .neq => Nat.ble (zj6 C t) 2
 | .lss => Nat.ble (zj6 C t) 2
 | .leq => Nat.ble (zj6 C t) 2
 | .gtr => Nat.ble (zj6 C t) 2
 | .geq => Nat.ble (zj6 C t) 2
 | _ => false
structure KOp where
 K : zab -> T
 Kd : zab -> T
 KA : Nat -> Nat -> T
def z0h (C : Ctx) (op : Op) (e : Env) (k : KOp) : T := obT ((zbj op).f C e H0A) k.Kd
def zzaj (C : Ctx) (op : Op) (x : Operand) (e : Env) (ae : zux) (k : KOp) : T :=
 match xAd ae x with
 | some p => k.KA p.1 p.2
 | none => z0h C op e k
def tLoad (C : Ctx) (t : Nat) (a : Operand) (e : Env) (ae : zux) (lo : Tr (List zab)) (k : KOp) : T :=
 match xAd ae a with
 | some p => obT (lo.get p.1) fun l => obT (C.tys.get t) fun ty => gdT (Nat.ble (p.2 + ty.size) (zbp l)) (obT (zkt C t l p.2) k.Kd)
 | none => obT (ev a e) fun v => .light (fun m => za2 C t ⟨0, m⟩ v) k.K
def zrr (C : Ctx) (s : Nat) (x : Operand) (f : Nat) (e : Env) (ae : zux) (k : KOp) : T :=
 match xAd ae x with
 | some p => obT (zo2 C s f) fun o => k.KA p.1 (p.2 + o)
 | none => obT (ev x e) fun v => .opt (zjj C s f v) k.K
def zrq (C : Ctx) (t : Nat) (x i : Operand) (e : Env) (ae : zux) (k : KOp) : T :=
 match xAd ae x with
 | some p => obT (ev i e) fun i => obT i.asNat fun i => obT (z0a C t i) fun o => k.KA p.1 (p.2 + o)
 | none => obT (ev x e) fun v => obT (ev i e) fun i => .opt (zaj C t v i) k.K
def tNil (x : Operand) (e : Env) (ae : zux) (k : KOp) : T :=
 match xAd ae x with
 | some p => k.KA p.1 p.2
 | none => obT (ev x e) fun v => .opt (vNil v) k.K
def tLen (C : Ctx) (c : Call) (e : Env) (k : KOp) : T :=
 obT (zds c.argTypes.toList 0) fun t => obT (zds c.args.toList 0) fun x => obT (ev x e) fun v =>
  bif Nat.beq (zj6 C t) 4 then .opt (zbw v) k.K else bif Nat.beq (zj6 C t) 6 then .light (fun m => z4d C t ⟨0, m⟩ v) k.K else obT (z4d C t H0A v) k.Kd
def tBin (C : Ctx) (op : BinOp) (t : Nat) (x y : Operand) (u : Nat) (e : Env) (k : KOp) : T :=
 bif binDir C op t y then z0h C (.binOp op t x y u) e k else obT (ev x e) fun a => obT (ev y e) fun b => .opt ((binA op).f C t x y a b) k.K
def zze3 (C : Ctx) (s d : Nat) (x : Operand) (e : Env) (k : KOp) : T :=
 bif Nat.beq (zj6 C d) 2 then (bif Nat.beq (zj6 C s) 2 then z0h C (.convert s d x) e k else obT (ev x e) fun v => .light (fun m => zkk C s d ⟨0, m⟩ v) k.K) else bif Nat.beq (zj6 C d) 1 then z0h C (.convert s d x) e k else .fail
def zzdf (C : Ctx) (t : Nat) (x : Operand) (lo hi : Option Operand) (e : Env) (k : KOp) : T :=
 obT (ev x e) fun a => obT (evo lo e) fun l => obT (evo hi e) fun h =>
  bif Nat.beq (zj6 C t) 2 then .opt (zcr C t H0A a l h) k.K else .light (fun m => zcr C t ⟨0, m⟩ a l h) k.K
def zk7 (C : Ctx) (c : Call) (e : Env) (k : KOp) : Builtin -> T
 | .len => tLen C c e k
 | .max => z0h C (.call c) e k
 | .min => z0h C (.call c) e k
 | _ => .fail
def zsp (ty : ATy) (v : zab) : List zab := bif ty.desc.isAgg then v.cells else [v]
def zzcg (cells : List zab) (off size : Nat) (vc : List zab) : Option (List zab) :=
 zah (Nat.beq (zbp vc) size && Nat.ble (off + zbp vc) (zbp cells)) (some (zem (zrd cells off) (zem vc (zln cells (off + zbp vc)))))
def z6l (C : Ctx) (tyAt : Nat -> Option Nat) : List (Nat × zab) -> Option (List (Nat × zab × List zab) × List zab) :=
 List.rec (motive := fun _ => Option (List (Nat × zab × List zab) × List zab)) (some ([], []))
  (fun p _ g => ob (tyAt p.1) fun t => ob (C.tys.get t) fun ty => ob g fun r => some (bif ty.desc.isAgg then ((p.1, p.2, p.2.cells) :: r.1, r.2) else ((p.1, p.2, [p.2]) :: r.1, p.2 :: r.2)))
def zzch (place : Nat -> Option (Nat × Nat)) : List (Nat × zab × List zab) -> List zab -> Option (List zab) :=
 List.rec (motive := fun _ => List zab -> Option (List zab)) (fun cells => some cells) (fun p _ g cells => ob (place p.1) fun q => ob (zzcg cells q.1 q.2 p.2.2) fun cells => g cells)
def tyAtS (ty : ATy) (i : Nat) : Option Nat :=
 match ty.desc.asStruct with
 | some fs => ob (zds fs i) fun x => some x.2.1
 | none => ob ty.desc.asArr fun a => some a.2
def zsa (C : Ctx) (ty : ATy) (i : Nat) : Option (Nat × Nat) :=
 match ty.desc.asStruct with
 | some fs => ob (zds fs i) fun x => some (x.1, x.2.2)
 | none => ob ty.desc.asArr fun a => ob (C.tys.get a.2) fun et => some (i * et.size, et.size)
def zw6 (C : Ctx) (ty : ATy) : Bool :=
 match ty.desc.asStruct with
 | some _ => true
 | none => match ty.desc.asArr with
  | some a => (match C.tys.get a.2 with | some _ => true | none => false)
  | none => false
def zzdh (C : Ctx) (t : Nat) (ps : Array (Nat × Operand)) (e : Env) (k : KOp) : T :=
 obT (C.tys.get t) fun ty => gdT (zw6 C ty) <| obT (evp ps.toList e) fun vs => obT (z6l C (tyAtS ty) vs) fun q => obT (zzch (zsa C ty) q.1 ty.zero) fun l => .ite (zgv zab.one q.2) (k.Kd (.agg l)) .fail
def tL (C : Ctx) (op : Op) (e : Env) (ae : zux) (lo : Tr (List zab)) (k : KOp) : T :=
 match op with
 | .move x => zzaj C (.move x) x e ae k
 | .assign x => zzaj C (.assign x) x e ae k
 | .load t a => tLoad C t a e ae lo k
 | .fieldAddr s x f => zrr C s x f e ae k
 | .indexAddr t x i => zrq C t x i e ae k
 | .nilCheck x => tNil x e ae k
 | .binOp op t x y u => tBin C op t x y u e k
 | .convert s d x => zze3 C s d x e k
 | .slice t x lo hi none => zzdf C t x lo hi e k
 | .index t x i => bif zt2 i && Nat.beq (zj6 C t) 5 then z0h C (.index t x i) e k else obT (ev x e) fun v => obT (ev i e) fun i => .opt (zu7 C t v i) k.K
 | .extract t i => obT (ev t e) fun v => .opt (zao i v) k.K
 | .typeAssert x _ u ok => obT (ev x e) fun v => .opt (zxz C u ok v) k.K
 | .lookup t x i ok => obT (ev x e) fun m => obT (ev i e) fun key => .light (fun h => zmj C t ⟨0, h⟩ m key ok) k.K
 | .call c => match c.callee with
  | .builtin b => zk7 C c e k b
  | _ => .fail
 | .pick c a b => z0h C (.pick c a b) e k
 | .unOp o t x => (match o with
  | .xor => obT (ev x e) fun v => .opt (zx1 v) k.K
  | o => z0h C (.unOp o t x) e k)
 | .makeInterface t x => z0h C (.makeInterface t x) e k
 | .makeFunc fn a b => z0h C (.makeFunc fn a b) e k
 | .field t x f => z0h C (.field t x f) e k
 | .build t ps => zzdh C t ps e k
 | _ => .fail
def laOf (la : List Nat) (dst : Option Nat) : Option Nat :=
 match dst with
 | some d => bif zb1 d la then some d else none
 | none => none
structure KLo where
 new : Nat -> List zab -> T
 set : Nat -> List zab -> T
def zzdg (f : Operand) (args : Array Operand) (e : Env) (k : KOp) : T :=
 match f with
 | .func g => gdT (Nat.blt g yo) (obT (evs args.toList e) fun as => .call g as k.K)
 | f => obT (ev f e) fun fv => obT (evs args.toList e) fun as => .callv fv as k.K
def two' (c : Call) (e : Env) (K : zab -> zab -> T) : T := obT (two c e) fun p => K p.1 p.2
def zvg (C : Ctx) (c : Call) (e : Env) (k : KOp) : Builtin -> T
 | .append => obT (zds c.argTypes.toList 0) fun t => obT (zds c.argTypes.toList 1) fun u => two' c e fun a b => .heavy (zcd C t u a b) k.K
 | b => zk7 C c e k b
def zzde (C : Ctx) (t : Nat) (a x : Operand) (e : Env) (ae : zux) (lo : Tr (List zab)) (k : KOp) (kl : KLo) : T :=
 match xAd ae a with
 | some p => obT (ev x e) fun v => obT (C.tys.get t) fun ty => obT (lo.get p.1) fun l => obT (zzcg l p.2 ty.size (zsp ty v)) fun l' => .ite (zgv zab.one (zsp ty v)) (kl.set p.1 l') .fail
 | none => obT (ev a e) fun a => obT (ev x e) fun v => .heavy (zb6 C t a v) k.Kd
def tH (C : Ctx) (la : List Nat) (dst : Option Nat) (op : Op) (e : Env) (ae : zux) (lo : Tr (List zab)) (k : KOp) (kl : KLo) : T :=
 match op with
 | .box t x => bif zb2 (zhn C t) then obT (ev x e) fun v => (match laOf la dst with
  | some d => obT (C.tys.get t) fun ty => bif ty.desc.isAgg then kl.new d v.cells else .ite (zab.one v) (kl.new d [v]) .fail
  | none => .heavy (zzdb v) k.K) else obT (ev x e) fun v => .heavy (zzex C t v) k.K
 | .alloc t => bif zb2 (zhn C t) then (match laOf la dst with
  | some d => obT (C.tys.get t) fun ty => kl.new d ty.zero
  | none => .heavy (znl C t) k.K) else .heavy (zs3 C t) k.K
 | .store t a x => zzde C t a x e ae lo k kl
 | .buildSlice t len ps => obT (evp ps.toList e) fun ps => .heavy (zaz C t len ps) k.K
 | .makeMap _ none => .heavy zz9 k.K
 | .insert t m key x => obT (ev m e) fun m => obT (ev key e) fun key => obT (ev x e) fun v => .heavy (zs0 C t m key v) k.Kd
 | .mapUpdate t m key x => obT (ev m e) fun m => obT (ev key e) fun key => obT (ev x e) fun v => .heavy (zs0 C t m key v) k.Kd
 | .makeSlice t l c => obT (ev l e) fun l => obT (ev c e) fun c => .heavy (zcp C t l c) k.K
 | .convert s d x => bif Nat.beq (zj6 C d) 4 then obT (ev x e) fun v => .heavy (zs1 C s d v) k.K else zze3 C s d x e k
 | .call c => match c.callee with
  | .value f => zzdg f c.args e k
  | .builtin b => zvg C c e k b
  | _ => .fail
 | op => tL C op e ae lo k
def rmNat (i : Nat) (l : List Nat) : List Nat := List.rec (motive := fun _ => List Nat) [] (fun j _ g => bif Nat.beq i j then g else j :: g) l
def z0f (n : Nat) (dst : Option Nat) (v : zab) (lt : Bool) (st : TSt) (κ : KT) : T :=
 match dst with
 | none => κ st
 | some d => bif Nat.blt d n then gdT (zb2 (zfr d st.ad)) (κ ⟨st.tm.set d v, st.ad, st.lo, bif lt then d :: rmNat d st.lit else rmNat d st.lit⟩) else κ st
def zze0 (n : Nat) (dst : Option Nat) (d off : Nat) (st : TSt) (κ : KT) : T :=
 obT dst fun i => gdT (Nat.blt i n) (gdT (zb2 (st.tm.get i)) (κ ⟨st.tm, (i, d, off) :: st.ad, st.lo, st.lit⟩))
def zzdu (d : Nat) (ad : List (Nat × Nat × Nat)) : Bool := zgv (fun a => bif Nat.beq a.2.1 d then Nat.beq a.1 d else true) ad
def tNew (n : Nat) (d : Nat) (l : List zab) (st : TSt) (κ : KT) : T :=
 gdT (Nat.blt d n) (gdT (zb2 (st.tm.get d)) (gdT (zzdu d st.ad) (κ ⟨st.tm, (d, d, 0) :: st.ad, st.lo.set d l, st.lit⟩)))
def fitB (C : Ctx) (t : Nat) (v : zab) : Bool :=
 match C.tys.get t with
 | some ty => (match ty.desc with
  | .bool => Nat.beq v.tag 0
  | .int k => (match v.asIntK with | some p => kEq p.1 k | none => false)
  | .string => Nat.beq v.tag 2
  | _ => true)
 | none => true
def z5c (C : Ctx) (t : Nat) (v : zab) (K : zab -> T) : T :=
 match C.tys.get t with
 | some ty => (match ty.desc with
  | .bool => .asB v fun b => K (.bool b)
  | .int k => .asI k v fun n => K (.int k n)
  | .string => .asS v fun s => K (.str s)
  | .struct _ => bif Nat.ble (zbp ty.zero) 40 then .asG ty.zero v fun X => K (.agg (zmt ty.zero X 0)) else K v
  | .arr _ _ => bif Nat.ble (zbp ty.zero) 40 then .asG ty.zero v fun X => K (.agg (zmt ty.zero X 0)) else K v
  | _ => K v)
 | none => K v
def zzdv (x : Operand) (lit : List Nat) : Bool :=
 match x with
 | .tmp t => lit.contains t
 | .const _ => true
 | _ => false
def zzbo (op : Op) (e : Env) (lit : List Nat) : Bool :=
 match op with
 | .move x => zzdv x lit
 | .assign x => zzdv x lit
 | .unOp _ _ x => zzdv x lit
 | .pick c a b => bif zzdv c lit then (match ob (ev c e) zab.asBool with
  | some w => bif w then zzdv a lit else zzdv b lit
  | none => false) else false
 | _ => false
def zt1 (all : List Oper) (dst : Option Nat) (l : List Oper) : Bool :=
 match dst with
 | none => false
 | some d => !zgv (fun o => match o.guard with
  | some g => (match ob (zds all g.1) fun p => p.dst with | some i => !Nat.beq i d | none => true)
  | none => true) l
def zrp (g lt : Bool) (v : zab) (K : zab -> Bool -> T) : T :=
 bif g then (bif lt then K v true else obT v.asBool fun b => .ite b (K (.bool true) true) (K (.bool false) true)) else K v lt
def kop (C : Ctx) (all : Array Oper) (n : Nat) (o : Oper) (e : Env) (st : TSt) (κ : KT) : KOp :=
 ⟨fun v => z5c C o.type v fun v => zrp (zt1 all.toList o.dst all.toList) (zzbo o.op e st.lit) v fun v lt => z0f n o.dst v lt st κ,
  fun v => gdT (fitB C o.type v) (zrp (zt1 all.toList o.dst all.toList) (zzbo o.op e st.lit) v fun v lt => z0f n o.dst v lt st κ),
  fun d off => gdT (!Nat.ble (zj6 C o.type) 2) (zze0 n o.dst d off st κ)⟩
def klo (C : Ctx) (n : Nat) (o : Oper) (st : TSt) (κ : KT) : KLo :=
 ⟨fun d l => gdT (!Nat.ble (zj6 C o.type) 2) (tNew n d l st κ),
  fun d l => gdT (fitB C o.type zba) (z0f n o.dst zba false ⟨st.tm, st.ad, st.lo.set d l, st.lit⟩ κ)⟩
def Env.adCut (k : Nat) (l : List (Nat × Nat × Nat)) : List (Nat × Nat × Nat) := l.filter fun a => Nat.blt a.1 k
def TSt.cut (st : TSt) : TSt := ⟨st.tm.cut, Env.adCut st.tm.k st.ad, st.lo, st.lit⟩
def tops (C : Ctx) (la : List Nat) (all : Array Oper) (n : Nat) (κ : KT) (l : List Oper) : KT :=
 List.rec (motive := fun _ => KT) κ
  (fun o _ g st => obT (za1 o.guard all st.tm) fun w => Bool.rec (motive := fun _ => T) (z0f n o.dst zba false st g)
   (tH C la o.dst o.op (.now st.tm) (.now st.ad) st.lo (kop C all n o (.now st.tm) st g) (klo C n o st g)) w) l
def zyx (st old : TSt) (olds : List Nat) (op : Op) : Env := .mixed st.tm old.tm olds (zbh op)
def zzbk (st old : TSt) (olds : List Nat) (op : Op) : zux := .mixed st.ad old.ad olds (zbh op)
def ze5 (C : Ctx) (all : Array Oper) (n : Nat) (old : TSt) (olds : List (Nat × List Nat)) (κ : KT) (l : List Nat) : KT :=
 List.rec (motive := fun _ => KT) κ
  (fun i _ g st => obT (zds all.toList i) fun o => obT (za1 o.guard all st.tm) fun w => Bool.rec (motive := fun _ => T) (z0f n o.dst zba false st g)
   (tL C o.op (zyx st old (zb5 i olds) o.op) (zzbk st old (zb5 i olds) o.op) st.lo (kop C all n o (zyx st old (zb5 i olds) o.op) st g)) w) l
def zj4 (C : Ctx) (all : Array Oper) (old : TSt) (olds : List (Nat × List Nat)) (st : TSt) (k : T) (l : List Nat) : T :=
 List.rec (motive := fun _ => T) k
  (fun i _ g => obT (zds all.toList i) fun o => obT o.dst fun d => obT (za1 o.guard all st.tm) fun w => Bool.rec (motive := fun _ => T) g
   (obT (st.tm.get d) fun u => gdT (fitB C o.type u) (tL C o.op (zyx st old (zb5 i olds) o.op) (zzbk st old (zb5 i olds) o.op) st.lo ⟨fun v => .ite (same 10 v u) g .fail, fun v => .ite (same 10 v u) g .fail, fun _ _ => .fail⟩)) w) l
def zro (C : Ctx) (es : List Eff) (H : zaf) : Option (zab × zaf) := ob (zlv C es H) fun H' => some (zba, H')
def tEff (op : Op) (e : Env) (ae : zux) : Option Eff :=
 match op with
 | .store t a x => (match xAd ae a with
  | some _ => none
  | none => zqk (.store t a x) e)
 | op => zqk op e
def zzal (all : Array Oper) (old : TSt) (olds : List (Nat × List Nat)) (st : TSt) (l : List Nat) : Option (List Eff) :=
 zd7 (fun i => ob (zds all.toList i) fun o => ob (za1 o.guard all st.tm) fun w => zah w (tEff o.op (zyx st old (zb5 i olds) o.op) (zzbk st old (zb5 i olds) o.op))) l
def ziy (C : Ctx) (all : Array Oper) (n : Nat) (old : TSt) (olds : List (Nat × List Nat)) (κ : KT) (l : List zch) : KT :=
 List.rec (motive := fun _ => KT) κ
  (fun s _ g st => Bool.rec (motive := fun _ => T) (obT (zds all.toList (hvI all s.heavy)) fun o => obT (zgd C all s.heavy o st.tm) fun w =>
   (fun cont : KT => Bool.rec (motive := fun _ => T) (z0f n o.dst zba false st cont)
    (tH C [] o.dst o.op (zyx st old (zb5 (hvI all s.heavy) olds) o.op) (zzbk st old (zb5 (hvI all s.heavy) olds) o.op) st.lo (kop C all n o (zyx st old (zb5 (hvI all s.heavy) olds) o.op) st cont) (klo C n o st cont)) w)
   (fun st' => zj4 C all old olds st' (ze5 C all n old olds g s.lights st') s.again))
   (gdT (zka C all) (obT (zzal all old olds st s.again) fun es => .heavy (zro C es) fun _ => ze5 C all n old olds g s.lights st)) (zfu all s)) l
def z43 (C : Ctx) (la : List Nat) (fn n : Nat) (κ : KT) (id : Nat) (all : Array Oper) (draw : Bool) : KT :=
 Bool.rec (motive := fun _ => KT) (fun st => tops C la all n κ all.toList st.cut)
  (fun st => obT (ob (C.plans.get fn) fun t => t.get id) fun p => gdT (ziq all p) (ze5 C all n st.cut p.olds (ziy C all n st.cut p.olds κ p.stages) p.first st.cut)) draw
def zrk (st : TSt) (ll : List (Nat × Nat)) : Option (List zab) :=
 List.rec (motive := fun _ => Option (List zab)) (some []) (fun p _ g => ob (zfr p.1 st.ad) fun a => zah (Nat.beq a.1 p.1 && Nat.beq a.2 0) (ob (st.lo.get p.1) fun l => zah (Nat.beq (zbp l) p.2) (ob g fun r => some (zem l r)))) ll
def zrj (p : PI) (st : TSt) : Option (List zab) := ob (zd7 (fun i => st.tm.get i) p.pl) fun a => ob (zrk st p.ll) fun b => some (zem a b)
def z93 (ll : List (Nat × Nat)) : List zab -> Tr (List zab) :=
 List.rec (motive := fun _ => List zab -> Tr (List zab)) (fun _ => .leaf) (fun p _ g vals => (g (zln vals p.2)).set p.1 (zrd vals p.2)) ll
def zxi (pl : List Nat) : List zab -> Tr zab :=
 List.rec (motive := fun _ => List zab -> Tr zab) (fun _ => .leaf) (fun i _ g vals => List.rec (motive := fun _ => Tr zab) .leaf (fun v vals _ => (g vals).set i v) vals) pl
def stAd (ll : List (Nat × Nat)) : List (Nat × Nat × Nat) := List.rec (motive := fun _ => List (Nat × Nat × Nat)) [] (fun p _ g => (p.1, p.1, 0) :: g) ll
def z4e (k : Nat) (p : PI) (vals : List zab) : TSt := ⟨⟨k, zxi p.pl vals, []⟩, stAd p.ll, z93 p.ll (zln vals (zbp p.pl)), []⟩
def npC (C : Ctx) (g : Nat) : Bool := zb2 (C.prims.get g)
def zzdp (pl : List Nat) (st : TSt) : Option (List zab) := zd7 (fun i => st.tm.get i) pl
def z6c (k n : Nat) (pl ps : List Nat) (ops : List Oper) (c : zbv) : Bool :=
 zgv (fun p => Nat.blt p k && Nat.blt p n && !zb1 p pl) ps && Nat.ble (zbp ps) 1 && zle ops && (match zdz c with | [] => true | _ => false)
def rdT : KtT := ⟨fun _ => .ret (.bool true), fun _ _ => .fail, fun _ => .ret (.bool false)⟩
def z6b (C : Ctx) (n : Nat) (κ : KtT) (i : Nat) (pl : List Nat) (f : Operand) (ps : List Nat) (ops : List Oper) (c : zbv) (st : TSt) : T :=
 gdT (z6c st.tm.k n pl ps ops c) (obT (zzdp pl st) fun vals => obT (ev f (.now st.tm)) fun fv => .range (npC C) fv i (zbp ps) vals (κ.norm st) (κ.ret st))
def zx2 (C : Ctx) (la : List Nat) (fn n : Nat) (c : zbv) : KtT -> KT :=
 zbv.rec (motive := fun _ => KtT -> KT)
  (fun κ st => κ.norm st)
  (fun id all draw κ => z43 C la fn n κ.norm id all draw)
  (fun _ _ ga gb κ => ga ⟨gb κ, κ.exit, κ.ret⟩)
  (fun c _ _ gx gy κ st => obT (ob (ev c (.now st.tm)) zab.asBool) fun b => bif zzdv c st.lit then Bool.rec (motive := fun _ => T) (gy κ st) (gx κ st) b else .ite b (gx κ st) (gy κ st))
  (fun id _ g κ => g ⟨κ.norm, fun i st => Bool.rec (motive := fun _ => T) (κ.exit i st) (κ.norm st) (Nat.beq id i), κ.ret⟩)
  (fun p _ _ _ st => obT (zrj p st) fun vals => .jump p.id vals)
  (fun id κ st => κ.exit id st)
  (fun κ st => κ.ret st)
  (fun p _ _ _ st => obT (zrj p st) fun vals => .jump p.id vals)
  (fun i pl f ps _ ops c _ κ st => z6b C n κ i pl f ps.toList ops.toList c st) c
structure PtT where
 p : PI
 tree : List zab -> T
def z3c (p : PI) : KT := fun st => obT (zrj p st) fun vals => .jump p.id vals
def zi2 (C : Ctx) (la : List Nat) (fn n k : Nat) (c : zbv) : KtT -> List PtT :=
 zbv.rec (motive := fun _ => KtT -> List PtT)
  (fun _ => [])
  (fun _ _ _ _ => [])
  (fun _ b ga gb κ => zem (ga ⟨zx2 C la fn n b κ, κ.exit, κ.ret⟩) (gb κ))
  (fun _ _ _ gx gy κ => zem (gx κ) (gy κ))
  (fun id _ g κ => g ⟨κ.norm, fun i st => Bool.rec (motive := fun _ => T) (κ.exit i st) (κ.norm st) (Nat.beq id i), κ.ret⟩)
  (fun p c g κ => ⟨p, fun vals => zx2 C la fn n c ⟨z3c p, κ.exit, κ.ret⟩ (z4e k p vals)⟩ :: g ⟨z3c p, κ.exit, κ.ret⟩)
  (fun _ _ => [])
  (fun _ => [])
  (fun p c g κ => ⟨p, fun vals => zx2 C la fn n c κ (z4e k p vals)⟩ :: g κ)
  (fun i pl _ ps id ops c g _ => ⟨⟨i, zem pl ps.toList, []⟩, fun vals => zx2 C la fn n (.seq (.region id ops false) c) rdT (z4e k ⟨i, zem pl ps.toList, []⟩ vals)⟩ :: g rdT) c
def resT (C : Ctx) (st : TSt) (l : List ResultVar) : (List zab -> T) -> T :=
 List.rec (motive := fun _ => (List zab -> T) -> T) (fun K => K [])
  (fun r _ g K => match r with
   | .tmp t => obT (st.tm.get t) fun v => g fun l => K (v :: l)
   | .cell a t => match zfr a st.ad with
    | some p => obT (st.lo.get p.1) fun l => obT (C.tys.get t) fun ty => gdT (Nat.ble (p.2 + ty.size) (zbp l)) (obT (zkt C t l p.2) fun v => g fun l => K (v :: l))
    | none => obT (st.tm.get a) fun a => .light (fun m => za2 C t ⟨0, m⟩ a) fun v => g fun l => K (v :: l)) l
def endT (C : Ctx) (fn : Func) : KT := fun st => resT C st fn.results.toList fun l => .ret (zkl l)
def topT (C : Ctx) (fn : Func) : KtT := ⟨endT C fn, fun _ _ => .fail, endT C fn⟩
structure zcq where
 code : zbv
 la : List Nat
def entT (C : Ctx) (fn : Func) (k : Nat) (f : Nat) (A : zcq) (args : List zab) : T := zx2 C A.la f fn.ntmps A.code (topT C fn) ⟨⟨k, Tr.ofList args, []⟩, [], .leaf, []⟩
def ptsT (C : Ctx) (fn : Func) (k : Nat) (f : Nat) (A : zcq) : List PtT := zi2 C A.la f fn.ntmps k A.code (topT C fn)
def z6k (l : List PtT) (i : Nat) (vals : List zab) : List T := List.rec (motive := fun _ => List T) [] (fun p _ g => bif Nat.beq p.p.id i then p.tree vals :: g else g) l
end Go.Am
namespace Go.Am
open Go Go.RowKit
def zd0 {α : Type} (x : Option α) (P : α -> Prop) : Prop :=
 match x with
 | some a => P a
 | none => False
theorem zer {α : Type} {x : Option α} {P : α -> Prop} : zd0 x P ↔ ∃ a, x = some a /\ P a := by
 cases x with
 | none => simp [zd0]
 | some a => simp [zd0]
@[simp] theorem zaa {α : Type} {a : α} {P : α -> Prop} : zd0 (some a) P = P a := rfl
@[simp] theorem optP_none {α : Type} {P : α -> Prop} : zd0 (none : Option α) P = False := rfl
abbrev zay := zab -> Tr zam -> Prop
abbrev zgy := Nat -> List zab -> Tr zam -> zay -> Prop
def zzec {α : Type} : List α -> Bool | [] => true | _ :: _ => false
def zw7 (f : zab) (args : List zab) : Option (Nat × List zab) := ob f.asFunc fun p => match p.1 with
 | .func g => zah (Nat.blt g yo) (some (g, zem (zem p.2.1 args) p.2.2))
 | .yld l => zah (zzec p.2.1 && zzec p.2.2) (some (yo + l, args))
def zld (np : Nat -> Bool) (f : zab) (l : Nat) : Option (Nat × List zab) := ob f.asFunc fun p => match p.1 with
 | .func g => zah (Nat.blt g yo && np g) (some (g, zem p.2.1 (.func (.yld l) [] [] :: p.2.2)))
 | .yld _ => none
def intK (k : IntKind) (v : zab) : Option Int := ob v.asIntK fun p => zah (kEq p.1 k) (some p.2)
def z96 (zs : List zab) (v : zab) : Option z9z := ob v.asAgg fun l => zah (zly zs l) (some (cellsOf l))
def wpT (base : Nat) (W : zgy) (J : zgy) : T -> Tr zam -> zay -> Prop
 | .ret v, t, Q => Q v t
 | .fail, _, _ => False
 | .ite b x y, t, Q => if b = true then wpT base W J x t Q else wpT base W J y t Q
 | .opt x K, t, Q => zd0 x fun v => wpT base W J (K v) t Q
 | .light x K, t, Q => zd0 (x t) fun v => wpT base W J (K v) t Q
 | .heavy x K, t, Q => ∀ b, t.get b = none -> base <= b -> zd0 (x ⟨b, t⟩) fun p => wpT base W J (K p.1) p.2.t Q
 | .call f args K, t, Q => W f args t fun v t' => wpT base W J (K v) t' Q
 | .callv f args K, t, Q => zd0 (zw7 f args) fun p => W p.1 p.2 t fun v t' => wpT base W J (K v) t' Q
 | .asI k v K, t, Q => zd0 (intK k v) fun n => wpT base W J (K n) t Q
 | .asB v K, t, Q => zd0 v.asBool fun n => wpT base W J (K n) t Q
 | .asS v K, t, Q => zd0 v.asStr fun n => wpT base W J (K n) t Q
 | .asG zs v K, t, Q => zd0 (z96 zs v) fun X => wpT base W J (K X) t Q
 | .jump i vals, t, Q => J i vals t Q
 | .range np f i m vals K R, t, Q => 256 <= base /\ ∀ l r, t.get l = none -> base <= l -> r.state = .ready -> r.pending = none →
   (∀ args t1 Q1, args.length = m -> t1.get l = some (.loop r) -> J i (vals ++ args) (t1.del l) (fun v t2 => t2.get l = none -> ∃ b, v = .bool b /\ Q1 v (t2.set l (.loop (zty b r)))) -> W (yo + l) args t1 Q1) →
   zd0 (zld np f l) fun p => W p.1 p.2 (t.set l (.loop r)) fun _ t' => (t'.get l = some (.loop r) /\ wpT base W J K (t'.del l) Q) \/ (t'.get l = some (.loop (zty false r)) /\ wpT base W J R (t'.del l) Q)
abbrev Xt := Nat -> Option zam
def XLe (X Y : Xt) : Prop := ∀ b y, X b = some y -> Y b = some y
theorem XLe.refl (X : Xt) : XLe X X := fun _ _ h => h
theorem XLe.trans {X Y Z : Xt} (h : XLe X Y) (k : XLe Y Z) : XLe X Z := fun b y e => k b y (h b y e)
structure Ov (base : Nat) (t : Tr zam) (X : Xt) (H : zaf) : Prop where
 base : base <= H.next
 same : ∀ b, X b = none -> H.t.get b = t.get b
 ext : ∀ b y, X b = some y -> H.t.get b = some y /\ t.get b = none /\ b < H.next
 lt : ∀ b y, t.get b = some y -> b < H.next
def HLe (H H' : zaf) : Prop := ∀ b y, H.t.get b = some y -> H'.t.get b = some y
def zni (e e' : Env) : Prop := ∀ i v, z91 i e = some v -> z91 i e' = some v
section
variable {base : Nat} {t : Tr zam} {X : Xt} {H HA : zaf} {e e' : Env} {C : Ctx} {v : zab}
theorem Ov.notX (h : Ov base t X HA) {b : Nat} {y : zam} (hb : t.get b = some y) : X b = none := by
 cases hx : X b with
 | none => rfl
 | some z => have := (h.ext b z hx).2.1; rw [hb] at this; cases this
theorem Ov.up (h : Ov base t X HA) {b : Nat} {y : zam} (hb : t.get b = some y) : HA.t.get b = some y := by rw [h.same b (h.notX hb)]; exact hb
theorem Ov.le (h : Ov base t X HA) {n : Nat} : HLe ⟨n, t⟩ HA := fun _ _ hb => h.up hb
theorem Ov.nextX (h : Ov base t X HA) : X HA.next = none := by
 cases hx : X HA.next with
 | none => rfl
 | some z => exact absurd (h.ext _ z hx).2.2 (Nat.lt_irrefl _)
theorem Ov.nextT (h : Ov base t X HA) : t.get HA.next = none := by
 cases hx : t.get HA.next with
 | none => rfl
 | some z => exact absurd (h.lt _ z hx) (Nat.lt_irrefl _)
theorem zbc (h : HLe H HA) {b : Nat} {p : Tr zab × Nat × Option Lo} (hb : zaq H b = some p) : zaq HA b = some p := by
 unfold zaq at hb ⊢; rw [zac] at hb ⊢; obtain ⟨y, h1, h2⟩ := hb; exact ⟨y, h _ _ h1, h2⟩
theorem zef (h : HLe H HA) {b : Nat} {p : List (zab × zab)} (hb : ze0 H b = some p) : ze0 HA b = some p := by
 unfold ze0 at hb ⊢; rw [zac] at hb ⊢; obtain ⟨y, h1, h2⟩ := hb; exact ⟨y, h _ _ h1, h2⟩
theorem zap (h : zni e e') {x : Operand} (hx : ev x e = some v) : ev x e' = some v := by
 cases x with
 | tmp i => exact h i v hx
 | const c => exact hx
 | global g => exact hx
 | func f => exact hx
theorem zud (h : zni e e') {l : List Operand} {vs : List zab} (hx : evs l e = some vs) : evs l e' = some vs := zjo l (fun _ _ k => zap h k) hx
theorem z1r (h : zni e e') {x : Option Operand} {r : Option zab} (hx : evo x e = some r) : evo x e' = some r := by
 cases x with
 | none => exact hx
 | some x =>
  have hx : ob (ev x e) (fun v => some (some v)) = some r := hx
  show ob (ev x e') (fun v => some (some v)) = some r
  rw [zac] at hx ⊢
  obtain ⟨a, h1, h2⟩ := hx
  exact ⟨a, zap h h1, h2⟩
theorem zue (h : zni e e') {l : List (Nat × Operand)} {vs : List (Nat × zab)} (hx : evp l e = some vs) : evp l e' = some vs :=
 zjo l (fun a b k => by rw [zac] at k ⊢; obtain ⟨u, h1, h2⟩ := k; exact ⟨u, zap h h1, h2⟩) hx
theorem zs6 (h : zni e e') {c : Call} {p : zab × zab} (hx : two c e = some p) : two c e' = some p := by
 unfold two at hx ⊢
 split at hx
 ·rw [zac] at hx ⊢
  obtain ⟨a, h1, hx⟩ := hx
  refine ⟨a, zap h h1, ?_⟩
  rw [zac] at hx ⊢
  obtain ⟨b, h2, hx⟩ := hx
  exact ⟨b, zap h h2, hx⟩
 ·cases hx
theorem zrn (h : HLe H HA) {ty : Nat} {a : zab} (hx : za2 C ty H a = some v) : za2 C ty HA a = some v := by
 unfold za2 at hx ⊢
 simp only [zac] at hx ⊢
 obtain ⟨p, h1, y, h2, c, h3, h4⟩ := hx
 exact ⟨p, h1, y, h2, c, zbc h h3, h4⟩
theorem znb (h : HLe H HA) {s d : ATy} {a : zab} (hx : znc C s d a H = some v) : znc C s d a HA = some v := by
 unfold znc at hx ⊢
 split at hx
 ·rename_i k hk; exact hx
 ·rename_i hk
  rw [zae] at hx ⊢
  refine ⟨hx.1, ?_⟩
  have hx := hx.2
  rw [zak] at hx ⊢
  split at hx
  ·rename_i e; rw [if_pos e]; exact hx
  ·rename_i e
   rw [if_neg e]; simp only [zac, zae] at hx ⊢
   obtain ⟨a1, h1, b1, h2, k1, h3, h4, h5⟩ := hx
   refine ⟨a1, h1, b1, h2, k1, h3, h4, ?_⟩
   unfold zh0 at h5 ⊢
   split at h5
   ·simp only [zac] at h5 ⊢
    obtain ⟨c, g1, g2⟩ := h5
    exact ⟨c, zbc h g1, g2⟩
   ·exact h5
theorem z18 (h : HLe H HA) {s d : Nat} {a : zab} (hx : zkk C s d H a = some v) : zkk C s d HA a = some v := by
 unfold zkk at hx ⊢
 simp only [zac] at hx ⊢
 obtain ⟨a1, h1, b1, h2, h3⟩ := hx
 exact ⟨a1, h1, b1, h2, znb h h3⟩
theorem zq8 (h : HLe H HA) {b size cap l : Nat} {arr : Bool} (hx : za6 H b size cap l arr = true) : za6 HA b size cap l arr = true := by
 unfold za6 at hx ⊢
 cases hc : zaq H b with
 | none => rw [hc] at hx; cases hx
 | some c => rw [hc] at hx; rw [zbc h hc]; exact hx
theorem zkp (h : HLe H HA) {ty : ATy} {a : zab} {l r : Option zab} (hx : zfx C H ty a l r = some v) : zfx C HA ty a l r = some v := by
 have row : ∀ {arr e b off len cap}, zdo C H arr e b off len cap l r = some v -> zdo C HA arr e b off len cap l r = some v := by
  intro arr e b off len cap hx; unfold zdo at hx ⊢
  simp only [zac] at hx ⊢
  obtain ⟨a1, h1, b1, h2, hx⟩ := hx
  refine ⟨a1, h1, b1, h2, ?_⟩
  cases hb : zaq H b with
  | none =>
   have e1 : zca H b a1.size cap b1.1 arr = false := by unfold zca; rw [hb]
   have e2 : za6 H b a1.size cap b1.1 arr = false := by unfold za6; rw [hb]
   rw [e1, e2, Bool.and_false, Bool.and_false] at hx
   cases hx
  | some c =>
   have e1 : zca HA b a1.size cap b1.1 arr = zca H b a1.size cap b1.1 arr := by unfold zca; rw [hb, zbc h hb]
   have e2 : za6 HA b a1.size cap b1.1 arr = za6 H b a1.size cap b1.1 arr := by unfold za6; rw [hb, zbc h hb]
   rw [e1, e2]; exact hx
 unfold zfx at hx ⊢
 split at hx
 ·exact hx
 ·split at hx
  ·rw [zac] at hx ⊢; obtain ⟨a1, h1, h2⟩ := hx; exact ⟨a1, h1, row h2⟩
  ·split at hx
   ·rw [zac] at hx ⊢; obtain ⟨a1, h1, h2⟩ := hx; exact ⟨a1, h1, row h2⟩
   ·exact hx
theorem zxx (h : HLe H HA) {ty : Nat} {a : zab} {l r : Option zab} (hx : zcr C ty H a l r = some v) : zcr C ty HA a l r = some v := by
 unfold zcr at hx ⊢
 rw [zac] at hx ⊢
 obtain ⟨a1, h1, h2⟩ := hx
 exact ⟨a1, h1, zkp h h2⟩
theorem zmv (h : HLe H HA) {m : zab} {l : List (zab × zab)} (hx : ztx H m = some l) : ztx HA m = some l := by
 unfold ztx at hx ⊢
 split at hx
 ·exact zef h hx
 ·exact hx
theorem zu6 (h : HLe H HA) {ty : Nat} {m k : zab} {ok : Bool} (hx : zmj C ty H m k ok = some v) : zmj C ty HA m k ok = some v := by
 unfold zmj at hx ⊢
 simp only [zac, zae] at hx ⊢
 obtain ⟨a1, h1, b1, h2, c1, h3, h4, d1, h5, es, h6, h7⟩ := hx
 exact ⟨a1, h1, b1, h2, c1, h3, h4, d1, h5, es, zmv h h6, h7⟩
theorem zpv (h : HLe H HA) {ty : ATy} {a : zab} {n : Nat} (hx : z4f H ty a = some n) : z4f HA ty a = some n := by
 unfold z4f at hx ⊢
 split at hx
 ·exact hx
 ·split at hx
  ·exact hx
  ·split at hx
   ·exact hx
   ·split at hx
    ·rw [zae, zac] at hx ⊢
     obtain ⟨h1, l, h2, h3⟩ := hx
     exact ⟨h1, l, zef h h2, h3⟩
    ·exact hx
theorem z4r (h : HLe H HA) {ty : Nat} {a : zab} (hx : z4d C ty H a = some v) : z4d C ty HA a = some v := by
 unfold z4d at hx ⊢
 simp only [zac] at hx ⊢
 obtain ⟨a1, h1, n, h2, h3⟩ := hx
 exact ⟨a1, h1, n, zpv h h2, h3⟩
theorem z7n {ty : Nat} {a : Operand} : zpy ty a C e H = ob (ev a e) fun v => za2 C ty H v := rfl
theorem z7q {s d : Nat} {x : Operand} {u : zab} (hx : ev x e = some u) : zj0 s d x C e H = zkk C s d H u := by unfold zj0 zkk; rw [hx]; rfl
theorem zzbs {ty : Nat} {x : Operand} {lo hi : Option Operand} {a : zab} {l r : Option zab} (h1 : ev x e = some a) (h2 : evo lo e = some l) (h3 : evo hi e = some r) : zlp ty x lo hi C e H = zcr C ty H a l r := by unfold zlp zcr; rw [h1, zad, h2, zad, h3, zad]
theorem znt {s f : Nat} {x : Operand} {u : zab} (hx : ev x e = some u) : zc3 s x f C e H = zjj C s f u := by
 unfold zc3 zjj zo2; rw [hx]
 cases C.tys.get s with
 | none => rfl
 | some ty =>
  simp only [zad]
  cases ty.desc.asStruct with
  | none => rfl
  | some fs =>
   simp only [zad]
   cases zds fs f with
   | none => rfl
   | some fd => simp only [zad]; cases hb : (!Nat.beq fd.2.2 0) <;> rfl
theorem znr {ty : Nat} {x i : Operand} {u w : zab} (hx : ev x e = some u) (hi : ev i e = some w) : zc2 ty x i C e H = zaj C ty u w := by unfold zc2 zaj; rw [hx, hi]; rfl
theorem zzbv {ty : Nat} {x i : Operand} {u w : zab} (hx : ev x e = some u) (hi : ev i e = some w) : zi4 ty x i C e H = zu7 C ty u w := by unfold zi4 zu7; rw [hx, hi]; rfl
theorem zzdx {x : Operand} {u : zab} (hx : ev x e = some u) : zzbt x C e H = vNil u := by unfold zzbt vNil; rw [hx]; rfl
theorem z3a {x : Operand} {i : Nat} {u : zab} (hx : ev x e = some u) : zeu x i C e H = zao i u := by unfold zeu zao; rw [hx]; rfl
theorem lBin_v {op : BinOp} {ty : Nat} {x y : Operand} {u w : zab} (hx : ev x e = some u) (hy : ev y e = some w) : z7s op ty x y C e H = (binA op).f C ty x y u w := by unfold z7s; rw [hx, hy]; rfl
theorem z7t {x : Operand} {a : Nat} {ok : Bool} {u : zab} (hx : ev x e = some u) : zgm x a ok C e H = zxz C a ok u := by
 unfold zgm zxz; rw [hx]; rfl
theorem z7m {ty : Nat} {x i : Operand} {ok : Bool} {m k : zab} (hx : ev x e = some m) (hi : ev i e = some k) : zgl ty x i ok C e H = zmj C ty H m k ok := by unfold zgl zmj; rw [hx, hi]; rfl
theorem lLen_v {c : Call} {ty : Nat} {x : Operand} {u : zab} (h1 : zds c.argTypes.toList 0 = some ty) (h2 : zds c.args.toList 0 = some x) (hx : ev x e = some u) : zy0 c C e H = z4d C ty H u := by unfold zy0 z4d; rw [h1, zad, h2, zad, hx]; rfl
theorem zzck (he : zni e e') {op : Op} (hp : zn9 op = true \/ (∃ s d x, op = .convert s d x /\ (zj6 C d = 1 \/ zj6 C s = 2)) \/ (∃ c, op = .call c /\ (c.callee = .builtin .max \/ c.callee = .builtin .min))) {H' : zaf} (h : (zbj op).f C e H = some v) : (zbj op).f C e' H' = some v := by
 rcases hp with hp | hp | hp
 ·cases op <;> simp only [zn9] at hp <;> try (cases hp; done)
  case move x => exact zap he h
  case assign x => exact zap he h
  case pick c a b =>
   have h : ob (ev c e) (fun c => ob c.asBool fun c => bif c then ev a e else ev b e) = some v := h
   show ob (ev c e') (fun c => ob c.asBool fun c => bif c then ev a e' else ev b e') = some v
   simp only [zac] at h ⊢
   obtain ⟨u, h1, w, h2, h3⟩ := h
   refine ⟨u, zap he h1, w, h2, ?_⟩
   cases w with
   | true => exact zap he h3
   | false => exact zap he h3
  case nilCheck x =>
   have h : ob (ev x e) (fun u => zah (Nat.beq u.tag 4 || Nat.beq u.tag 9) (some u)) = some v := h
   show ob (ev x e') (fun u => zah (Nat.beq u.tag 4 || Nat.beq u.tag 9) (some u)) = some v
   rw [zac] at h ⊢
   obtain ⟨u, h1, h2⟩ := h
   exact ⟨u, zap he h1, h2⟩
  case binOp op t x y u =>
   have h : z7s op t x y C e H = some v := h
   show z7s op t x y C e' H' = some v
   unfold z7s at h ⊢
   simp only [zac] at h ⊢
   obtain ⟨a, h1, b, h2, h3⟩ := h
   exact ⟨a, zap he h1, b, zap he h2, h3⟩
  case unOp op t x =>
   have h : lUn op x C e H = some v := h
   show lUn op x C e' H' = some v
   unfold lUn at h ⊢
   rw [zac] at h ⊢
   obtain ⟨a, h1, h2⟩ := h
   exact ⟨a, zap he h1, h2⟩
  case makeInterface t x =>
   have h : zns t x C e H = some v := h
   show zns t x C e' H' = some v
   unfold zns at h ⊢
   simp only [zac, zae] at h ⊢
   obtain ⟨a, h1, h2, b, h3, h4⟩ := h
   exact ⟨a, h1, h2, b, zap he h3, h4⟩
  case makeFunc fn a b =>
   have h : (zi5 fn a b).f C e H = some v := h
   show (zi5 fn a b).f C e' H' = some v
   unfold zi5 at h ⊢
   split at h
   ·show z7p _ a b C e' H' = some v
    unfold z7p at h ⊢
    simp only [zac] at h ⊢
    obtain ⟨x, h1, y, h2, h3⟩ := h
    exact ⟨x, zud he h1, y, zud he h2, h3⟩
   ·cases h
  case fieldAddr s x f =>
   have h : zc3 s x f C e H = some v := h
   show zc3 s x f C e' H' = some v
   unfold zc3 at h ⊢
   simp only [zac, zae] at h ⊢
   obtain ⟨a, h1, b, h2, c, h3, h4, u, h5, h6⟩ := h
   exact ⟨a, h1, b, h2, c, h3, h4, u, zap he h5, h6⟩
  case field t x f =>
   have h : znu t x f C e H = some v := h
   show znu t x f C e' H' = some v
   unfold znu at h ⊢
   simp only [zac] at h ⊢
   obtain ⟨a, h1, b, h2, c, h3, u, h5, h6⟩ := h
   exact ⟨a, h1, b, h2, c, h3, u, zap he h5, h6⟩
  case indexAddr t x i =>
   have h : zc2 t x i C e H = some v := h
   show zc2 t x i C e' H' = some v
   unfold zc2 at h ⊢
   simp only [zac] at h ⊢
   obtain ⟨a, h1, b, h2, c, h3, h4⟩ := h
   exact ⟨a, h1, b, zap he h2, c, zap he h3, h4⟩
  case index t x i =>
   have h : zi4 t x i C e H = some v := h
   show zi4 t x i C e' H' = some v
   unfold zi4 at h ⊢
   simp only [zac] at h ⊢
   obtain ⟨a, h1, b, h2, c, h3, h4⟩ := h
   exact ⟨a, h1, b, zap he h2, c, zap he h3, h4⟩
  case extract t i =>
   have h : zeu t i C e H = some v := h
   show zeu t i C e' H' = some v
   unfold zeu at h ⊢
   rw [zac] at h ⊢
   obtain ⟨a, h1, h2⟩ := h
   exact ⟨a, zap he h1, h2⟩
  case build t ps =>
   have h : zkb t ps C e H = some v := h
   show zkb t ps C e' H' = some v
   unfold zkb at h ⊢
   rw [zac] at h ⊢
   obtain ⟨a, h1, h⟩ := h
   refine ⟨a, h1, ?_⟩
   rw [zac] at h ⊢
   obtain ⟨b, h2, h⟩ := h
   exact ⟨b, zue he h2, h⟩
  case typeAssert x t u ok =>
   have h : zgm x u ok C e H = some v := h
   show zgm x u ok C e' H' = some v
   unfold zgm at h ⊢
   rw [zac] at h ⊢
   obtain ⟨a, h1, h⟩ := h
   refine ⟨a, h1, ?_⟩
   rw [zae] at h ⊢
   refine ⟨h.1, ?_⟩
   have h := h.2
   rw [zac] at h ⊢
   obtain ⟨b, h2, h⟩ := h
   exact ⟨b, zap he h2, h⟩
 ·obtain ⟨s, d, x, rfl, hp⟩ := hp
  have h : zj0 s d x C e H = some v := h
  show zj0 s d x C e' H' = some v
  unfold zj0 at h ⊢
  simp only [zac] at h ⊢
  obtain ⟨u, h1, sy, h2, dy, h3, h4⟩ := h
  refine ⟨u, zap he h1, sy, h2, dy, h3, ?_⟩
  unfold znc at h4 ⊢
  split at h4
  ·exact h4
  ·rename_i hd
   rw [zae] at h4 ⊢
   refine ⟨h4.1, ?_⟩
   have h4 := h4.2
   rw [zak] at h4 ⊢
   split at h4
   ·rename_i e; rw [if_pos e]; exact h4
   ·rename_i e
    exfalso
    rcases hp with hp | hp
    ·unfold zj6 at hp
     rw [h3] at hp; have hp : dy.desc.tag = 1 := hp
     cases hx : dy.desc <;> rw [hx] at hp hd <;> first
      | (cases hp; done)
      | (cases hd; done)
    ·unfold zj6 at hp
     rw [h2] at hp; have hp : sy.desc.tag = 2 := hp
     simp only [zac] at h4; obtain ⟨el, h5, _⟩ := h4
     cases hx : sy.desc <;> rw [hx] at hp h5 <;> first
      | (cases hp; done)
      | (cases h5; done)
 ·obtain ⟨c, rfl, hc⟩ := hp
  rcases hc with hc | hc
  ·have h : (zfa c c.callee).f C e H = some v := h
   show (zfa c c.callee).f C e' H' = some v
   rw [hc] at h ⊢
   have h : z7l c C e H = some v := h
   show z7l c C e' H' = some v
   unfold z7l at h ⊢
   rw [zac] at h ⊢
   obtain ⟨p, h1, h2⟩ := h
   exact ⟨p, zs6 he h1, h2⟩
  ·have h : (zfa c c.callee).f C e H = some v := h
   show (zfa c c.callee).f C e' H' = some v
   rw [hc] at h ⊢
   have h : z7j c C e H = some v := h
   show z7j c C e' H' = some v
   unfold z7j at h ⊢
   rw [zac] at h ⊢
   obtain ⟨p, h1, h2⟩ := h
   exact ⟨p, zs6 he h1, h2⟩
end
end Go.Am
namespace Go.Am
open Go Go.RowKit
section
variable {base : Nat} {t : Tr zam} {X : Xt} {H HA : zaf} {e e' : Env} {C : Ctx} {v : zab}
theorem Ov.newBlk (h : Ov base t X HA) (y : zam) : Ov base (t.set HA.next y) X (newBlk HA y) := by
 refine ⟨Nat.le_succ_of_le h.base, fun b hb => ?_, fun b z hb => ?_, fun b z hb => ?_⟩
 ·show (HA.t.set HA.next y).get b = _
  rw [Tr.get_set, Tr.get_set]; split
  ·rfl
  ·exact h.same b hb
 ·obtain ⟨h1, h2, h3⟩ := h.ext b z hb
  have hne : b ≠ HA.next := Nat.ne_of_lt h3
  refine ⟨?_, ?_, Nat.lt_succ_of_lt h3⟩
  ·show (HA.t.set HA.next y).get b = _
   rw [Tr.get_set, if_neg hne]; exact h1
  ·rw [Tr.get_set, if_neg hne]; exact h2
 ·rw [Tr.get_set] at hb
  show b < HA.next + 1
  split at hb
  ·rename_i e; rw [e]; exact Nat.lt_succ_self _
  ·exact Nat.lt_succ_of_lt (h.lt _ _ hb)
theorem Ov.setBlk (h : Ov base t X HA) {b : Nat} {y : zam} (hb : t.get b = some y) (z : zam) : Ov base (t.set b z) X (setBlk HA b z) := by
 refine ⟨h.base, fun c hc => ?_, fun c u hc => ?_, fun c u hc => ?_⟩
 ·show (HA.t.set b z).get c = _
  rw [Tr.get_set, Tr.get_set]; split
  ·rfl
  ·exact h.same c hc
 ·obtain ⟨h1, h2, h3⟩ := h.ext c u hc
  have hne : c ≠ b := fun e => by rw [e, hb] at h2; cases h2
  refine ⟨?_, ?_, h3⟩
  ·show (HA.t.set b z).get c = _
   rw [Tr.get_set, if_neg hne]; exact h1
  ·rw [Tr.get_set, if_neg hne]; exact h2
 ·rw [Tr.get_set] at hc
  show c < HA.next
  split at hc
  ·rename_i e; rw [e]; exact h.lt _ _ hb
  ·exact h.lt _ _ hc
theorem Ov.delBlk (h : Ov base t X HA) {b : Nat} {y : zam} (hb : t.get b = some y) : Ov base (t.del b) X ⟨HA.next, HA.t.del b⟩ := by
 refine ⟨h.base, fun c hc => ?_, fun c u hc => ?_, fun c u hc => ?_⟩
 ·show (HA.t.del b).get c = _
  rw [Tr.get_del, Tr.get_del]; split
  ·rfl
  ·exact h.same c hc
 ·obtain ⟨h1, h2, h3⟩ := h.ext c u hc
  have hne : c ≠ b := fun e => by rw [e, hb] at h2; cases h2
  refine ⟨?_, ?_, h3⟩
  ·show (HA.t.del b).get c = _
   rw [Tr.get_del, if_neg hne]; exact h1
  ·rw [Tr.get_del, if_neg hne]; exact h2
 ·rw [Tr.get_del] at hc
  show c < HA.next
  split at hc
  ·cases hc
  ·exact h.lt _ _ hc
def z39 (base : Nat) (x : zaf -> Option (zab × zaf)) : Prop := ∀ t X HA v H', Ov base t X HA -> x ⟨HA.next, t⟩ = some (v, H') -> ∃ HA', x HA = some (v, HA') /\ Ov base H'.t X HA'
theorem zlk (l : List zab) (lo : Option Lo) (h : Ov base t X HA) : Ov base (zaw ⟨HA.next, t⟩ l lo).t X (zaw HA l lo) := h.newBlk _
theorem z4u {ty : Nat} : z39 base (znl C ty) := by
 intro t X HA v H' ho h; unfold znl at h ⊢
 rw [zac] at h; obtain ⟨y, h1, h2⟩ := h
 cases h2; rw [h1]; exact ⟨_, rfl, zlk _ _ ho⟩
theorem zzew {u : zab} : z39 base (zzdb u) := by
 intro t X HA v H' ho h
 cases h; exact ⟨_, rfl, zlk _ _ ho⟩
theorem z2a {ty : Nat} : z39 base (zs3 C ty) := by
 intro t X HA v H' ho h; unfold zs3 at h ⊢
 rw [zac] at h; obtain ⟨y, h1, h3⟩ := h
 cases h3; rw [h1, zad]; exact ⟨_, rfl, zlk _ _ ho⟩
theorem zzac {ty : Nat} {u : zab} : z39 base (zzex C ty u) := by
 intro t X HA v H' ho h; unfold zzex at h ⊢
 cases h; exact ⟨_, rfl, zlk _ _ ho⟩
theorem zq5 {ty n : Nat} {ps : List (Nat × zab)} : z39 base (zaz C ty n ps) := by
 intro t X HA v H' ho h; unfold zaz at h ⊢
 simp only [zac, zae] at h; obtain ⟨a, h1, b, h2, c, h3, h4, l, h5, h6⟩ := h
 cases h6; refine ⟨zaw HA l none, ?_, zlk _ _ ho⟩
 simp only [zac, zae]; exact ⟨a, h1, b, h2, c, h3, h4, l, h5, rfl⟩
theorem zo7 (ho : Ov base t X HA) {b off : Nat} {l : List zab} {H' : zaf} (h : zd3 C ⟨HA.next, t⟩ b off l = some H') : ∃ HA', zd3 C HA b off l = some HA' /\ Ov base H'.t X HA' := by
 unfold zd3 at h ⊢
 simp only [zac, zae] at h; obtain ⟨h1, c, h2, h3, h4⟩ := h
 cases h4; have h2' := h2
 unfold zaq at h2'; rw [zac] at h2'
 obtain ⟨y, h5, _⟩ := h2'
 refine ⟨_, ?_, ho.setBlk h5 _⟩
 simp only [zac, zae]; exact ⟨h1, c, zbc ho.le h2, h3, rfl⟩
theorem z4q {ty : Nat} {a u : zab} : z39 base (zb6 C ty a u) := by
 intro t X HA v H' ho h; unfold zb6 at h ⊢
 simp only [zac, zae] at h; obtain ⟨y, h1, p, h2, h3, H1, h4, h5⟩ := h
 cases h5; obtain ⟨HA', h6, h7⟩ := zo7 ho h4
 refine ⟨HA', ?_, h7⟩
 simp only [zac, zae]; exact ⟨y, h1, p, h2, h3, HA', h6, rfl⟩
theorem zxy : z39 base zz9 := by
 intro t X HA v H' ho h
 cases h; exact ⟨_, rfl, ho.newBlk _⟩
theorem zrm {ty : Nat} {m k u : zab} : z39 base (zs0 C ty m k u) := by
 intro t X HA v H' ho h; unfold zs0 at h ⊢
 simp only [zac, zae] at h; obtain ⟨a, h1, b, h2, c, h3, h4, d, h5, h6, l, h7, h8, l', h9, h10⟩ := h
 cases h10; have h7' := h7
 unfold ze0 at h7'; rw [zac] at h7'
 obtain ⟨y, h11, _⟩ := h7'
 refine ⟨_, ?_, ho.setBlk h11 _⟩
 simp only [zac, zae]; exact ⟨a, h1, b, h2, c, h3, h4, d, h5, h6, l, zef ho.le h7, h8, l', h9, rfl⟩
theorem z9j (ho : Ov base t X HA) {e : RE} {H' : zaf} (h : zma C ⟨HA.next, t⟩ e = some H') : ∃ HA', zma C HA e = some HA' /\ Ov base H'.t X HA' /\ HA'.next = HA.next /\ H'.next = HA.next := by
 obtain ⟨x, y, h1, h2, rfl⟩ := zgr.1 h
 exact ⟨setBlk HA e.blk y, zgr.2 ⟨x, y, ho.up h1, h2, rfl⟩, ho.setBlk h1 _, rfl, rfl⟩
theorem zw8 : ∀ {l : List RE} {t : Tr zam} {HA : zaf} {H' : zaf}, Ov base t X HA -> zqr C l ⟨HA.next, t⟩ = some H' -> ∃ HA', zqr C l HA = some HA' /\ Ov base H'.t X HA'
 | [], t, HA, H', ho, h => by cases h; exact ⟨HA, rfl, ho⟩
 | e :: l, t, HA, H', ho, h => by
  unfold zqr at h ⊢
  rw [zac] at h; obtain ⟨H1, h1, h⟩ := h
  obtain ⟨HA1, g1, g2, g3, g4⟩ := z9j ho h1
  rw [g1, zad]; obtain ⟨n1, t1⟩ := H1
  have g4 : n1 = HA.next := g4
  subst g4; rw [<- g3] at h; exact zw8 g2 h
theorem z58 (ho : Ov base t X HA) {e : RE} (h : zr4 C ⟨HA.next, t⟩ e = true) : zr4 C HA e = true := by
 cases e with
 | st b off l =>
  change (!zb2 (zd3 C ⟨HA.next, t⟩ b off l)) = true at h
  show (!zb2 (zd3 C HA b off l)) = true
  cases hs : zd3 C ⟨HA.next, t⟩ b off l with
  | none => rw [hs] at h; cases h
  | some H' => obtain ⟨HA', g, _⟩ := zo7 ho hs; rw [g]; rfl
 | up b k v =>
  unfold zr4 at h ⊢
  rw [yac] at h ⊢
  refine ⟨h.1, ?_⟩
  have h2 := h.2
  split at h2
  ·rename_i hm; rw [zef ho.le hm]
  ·cases h2
theorem z4t {es : List Eff} : z39 base (zro C es) := by
 intro t X HA v H' ho h; unfold zro zlv at h ⊢
 simp only [zac, zae, yac] at h; obtain ⟨H1, ⟨rs, h1, ⟨h2, h3⟩, h4⟩, h5⟩ := h
 cases h5; obtain ⟨HA', g1, g2⟩ := zw8 ho h4
 refine ⟨HA', ?_, g2⟩
 simp only [zac, zae, yac]; refine ⟨HA', ⟨rs, h1, ⟨h2, ?_⟩, g1⟩, rfl⟩
 rw [zda, ybc] at h3 ⊢
 exact fun e he => z58 ho (h3 e he)
theorem zs2 {ty : Nat} {l c : zab} : z39 base (zcp C ty l c) := by
 intro t X HA v H' ho h; unfold zcp at h ⊢
 simp only [zac, zae] at h; obtain ⟨a, h1, b, h2, d, h3, n, h4, m, h5, h6, h7⟩ := h
 cases h7; refine ⟨zaw HA (zut d.zero m) none, ?_, zlk _ _ ho⟩
 simp only [zac, zae]; exact ⟨a, h1, b, h2, d, h3, n, h4, m, h5, h6, rfl⟩
theorem zxw {s d : Nat} {u : zab} : z39 base (zs1 C s d u) := by
 intro t X HA v H' ho h; unfold zs1 at h ⊢
 simp only [zac, zae] at h; obtain ⟨a, h1, b, h2, c, h3, et, h4, k, h5, h6, l, h7, h8⟩ := h
 cases h8; refine ⟨zaw HA (zez l) (some (.ty c)), ?_, zlk _ _ ho⟩
 simp only [zac, zae]; exact ⟨a, h1, b, h2, c, h3, et, h4, k, h5, h6, l, h7, rfl⟩
theorem zy9 (h : HLe H HA) {sz n : Nat} {u : zab} {l : List zab} (hx : zit H sz n u = some l) : zit HA sz n u = some l := by
 unfold zit at hx ⊢
 split at hx
 ·rw [zac] at hx ⊢
  obtain ⟨c, h1, h2⟩ := hx
  exact ⟨c, zbc h h1, h2⟩
 ·exact hx
theorem z36 (ho : Ov base t X HA) {ty : ATy} {a b : zab} {H' : zaf} (h : zih C ⟨HA.next, t⟩ ty a b = some (v, H')) : ∃ HA', zih C HA ty a b = some (v, HA') /\ Ov base H'.t X HA' := by
 unfold zih at h; simp only [zac] at h; obtain ⟨el, h1, et, h2, n, h3, new, h4, h5⟩ := h
 have h4' := zy9 ho.le h4
 suffices hs : ∃ HA', (match a.asSlice with
  | some s => bif Nat.ble (s.2.2.1 + n) s.2.2.2 then zg9 C HA et n new s else zh7 C HA el et n new s
  | none => zah (Nat.beq a.tag 5) (zfv HA el et n new)) = some (v, HA') /\ Ov base H'.t X HA' by
  obtain ⟨HA', g1, g2⟩ := hs
  refine ⟨HA', ?_, g2⟩
  unfold zih; simp only [zac]; exact ⟨el, h1, et, h2, n, h3, new, h4', g1⟩
 cases hs : a.asSlice with
 | some s =>
  rw [hs] at h5; simp only [] at h5 ⊢
  rw [zak] at h5; split at h5
  ·rename_i hr
   simp only [hr, cond_true]; unfold zg9 at h5 ⊢
   split at h5
   ·cases h5; exact ⟨HA, rfl, ho⟩
   ·rw [zac] at h5
    obtain ⟨H1, g1, g2⟩ := h5
    cases g2
    obtain ⟨HA', g3, g4⟩ := zo7 ho g1
    exact ⟨HA', by simp only [g3, zad], g4⟩
  ·rename_i hr
   simp only [Bool.not_eq_true] at hr; simp only [hr, cond_false]; unfold zh7 at h5 ⊢
   rw [zae] at h5; obtain ⟨gm, h5⟩ := h5
   rw [zae] at h5; obtain ⟨g0, h5⟩ := h5
   rw [zac] at h5; obtain ⟨c, g1, h5⟩ := h5
   have g1' := zbc ho.le g1
   unfold zaq at g1; rw [zac] at g1; obtain ⟨y, g2, _⟩ := g1
   split at h5
   ·rename_i hc
    unfold zhw at h5; rw [zac] at h5; obtain ⟨old, g3, g4⟩ := h5
    cases g4
    refine ⟨zaw HA (zem old new) (some (zdw el et)), ?_, zlk _ _ ho⟩
    simp only [zae, zac]; refine ⟨gm, g0, c, g1', ?_⟩
    rw [hc]; unfold zhw; simp only [zac]; exact ⟨old, g3, rfl⟩
   ·rename_i es hc
    unfold zhx at h5; rw [zae] at h5; obtain ⟨g3, g4⟩ := h5
    cases g4
    refine ⟨⟨HA.next + 1, (HA.t.del s.1).set HA.next (.cells (c.1.setMany new (s.2.2.1 * et.size)) ((s.2.2.1 + n) * et.size) (some es))⟩, ?_, (ho.delBlk g2).newBlk _⟩
    simp only [zae, zac]; refine ⟨gm, g0, c, g1', ?_⟩
    rw [hc]; unfold zhx; exact zae.2 ⟨g3, rfl⟩
 | none =>
  rw [hs] at h5; simp only [] at h5 ⊢
  rw [zae] at h5; obtain ⟨g0, h5⟩ := h5
  unfold zfv at h5; rw [zak] at h5; split at h5
  ·rename_i hn
   cases h5; refine ⟨HA, ?_, ho⟩
   rw [zae]; refine ⟨g0, ?_⟩
   unfold zfv; rw [hn]; rfl
  ·rename_i hn
   rw [zae] at h5; obtain ⟨g1, h5⟩ := h5
   cases h5; refine ⟨zaw HA new (some (zdw el et)), ?_, zlk _ _ ho⟩
   rw [zae]; refine ⟨g0, ?_⟩
   unfold zfv; simp only [Bool.not_eq_true] at hn; rw [hn, cond_false, zae]; exact ⟨g1, rfl⟩
theorem z19 {ty u : Nat} {a b : zab} : z39 base (zcd C ty u a b) := by
 intro t X HA v H' ho h; unfold zcd at h; simp only [zac, zae] at h; obtain ⟨y, h1, z, h2, h3, h4⟩ := h
 obtain ⟨HA', g1, g2⟩ := z36 ho h4
 refine ⟨HA', ?_, g2⟩
 unfold zcd; simp only [zac, zae]; exact ⟨y, h1, z, h2, h3, g1⟩
end
def znj (ν : Nat -> Nat) (ae : zux) (e : Env) : Prop := ∀ i p, tAd ae i = some p -> z91 i e = some (.ptr (ν p.1) p.2)
def z9x (base : Nat) (X0 X : Xt) (ν : Nat -> Nat) (lo : Tr (List zab)) : Prop := ∀ d l, lo.get d = some l -> X0 (ν d) = none /\ base <= ν d /\ ∃ c, X (ν d) = some (.cells c l.length none) /\ ∀ j a, l[j]? = some a -> c.get j = some a
theorem za4 {base : Nat} {W J : zgy} {α : Type} {x : Option α} {K : α -> T} {t : Tr zam} {Q : zay} : wpT base W J (obT x K) t Q ↔ ∃ a, x = some a /\ wpT base W J (K a) t Q := by
 cases x with
 | none => exact ⟨fun h => (by cases h), fun ⟨_, h, _⟩ => (by cases h)⟩
 | some a => exact ⟨fun h => ⟨a, rfl, h⟩, fun ⟨_, h, k⟩ => (by cases h; exact k)⟩
theorem zfm {base : Nat} {W J : zgy} {b : Bool} {K : T} {t : Tr zam} {Q : zay} : wpT base W J (gdT b K) t Q ↔ b = true /\ wpT base W J K t Q := by
 cases b with
 | false => exact ⟨fun h => (by cases h), fun ⟨h, _⟩ => (by cases h)⟩
 | true => exact ⟨fun h => ⟨rfl, h⟩, fun ⟨_, h⟩ => h⟩
theorem zj3 {base : Nat} {W J : zgy} {x : Option zab} {K : zab -> T} {t : Tr zam} {Q : zay} : wpT base W J (.opt x K) t Q ↔ ∃ a, x = some a /\ wpT base W J (K a) t Q := zer
theorem zjg {base : Nat} {W J : zgy} {x : Tr zam -> Option zab} {K : zab -> T} {t : Tr zam} {Q : zay} : wpT base W J (.light x K) t Q ↔ ∃ a, x t = some a /\ wpT base W J (K a) t Q := zer
theorem zox {ν : Nat -> Nat} {ae : zux} {e : Env} (h : znj ν ae e) {x : Operand} {p : Nat × Nat} (hx : xAd ae x = some p) : ev x e = some (.ptr (ν p.1) p.2) := by
 cases x with
 | tmp i => exact h i p hx
 | const _ => cases hx
 | global _ => cases hx
 | func _ => cases hx
theorem zzfi {c : Tr zab} {l : List zab} (h : ∀ j a, l[j]? = some a -> c.get j = some a) : ∀ (n off : Nat), off + n <= l.length -> c.many n off = some ((l.drop off).take n) := by
 intro n; induction n with
 | zero => intro off _; simp; rfl
 | succ n ih =>
  intro off ho; have hlt : off < l.length := by omega
  rw [Tr.many_succ, h off l[off] (yae hlt), zad, ih (off + 1) (by omega), zad]
  rw [yam hlt, List.take_succ_cons]
section
variable {W J : zgy} {t : Tr zam} {X X0 : Xt} {HA : zaf} {e eA : Env} {C : Ctx} {ν : Nat -> Nat} {ae : zux} {lo : Tr (List zab)} {k : KOp} {Q : zay} {R : zab -> Prop}
theorem z06 (ho : Ov C.base t X HA) (hl : z9x C.base X0 X ν lo) {d off ty : Nat} {l : List zab} {y : ATy} {v : zab} (h1 : lo.get d = some l) (h2 : C.tys.get ty = some y) (h3 : Nat.ble (off + y.size) (zbp l) = true) (h4 : zkt C ty l off = some v) :
  za2 C ty HA (.ptr (ν d) off) = some v := by
 obtain ⟨_, _, c, hc, hg⟩ := hl d l h1
 have hb := (ho.ext _ _ hc).1
 unfold za2; simp only [zab.asPtr, zad]; rw [h2, zad]; unfold zaq; rw [hb, zad]; simp only [zam.asCells, zad]; unfold zkt at h4; rw [h2, zad] at h4; unfold zmw; rw [zak] at h4 ⊢
 rw [zhm, zav] at h3; split at h4
 ·rename_i ha
  rw [if_pos ha, zzfi hg _ _ h3, zad]; rw [zfi, zf5] at h4; exact h4
 ·rename_i ha
  rw [if_neg ha]; rw [zbe] at h4; exact hg _ _ h4
theorem ze6 (he : zni e eA) {op : Op} (hp : zn9 op = true \/ (∃ s d x, op = .convert s d x /\ (zj6 C d = 1 \/ zj6 C s = 2)) \/ (∃ c, op = .call c /\ (c.callee = .builtin .max \/ c.callee = .builtin .min)))
  (h : wpT C.base W J (z0h C op e k) t Q) (hKd : ∀ v, wpT C.base W J (k.Kd v) t Q -> R v) : ∃ v, (zbj op).f C eA HA = some v /\ R v := by
 unfold z0h at h; rw [za4] at h; obtain ⟨v, h1, h2⟩ := h
 exact ⟨v, zzck he hp h1, hKd v h2⟩
theorem z4s {ty : Nat} {u v : zab} {H : zaf} (ht : zj6 C ty = 4) (h : zbw u = some v) : z4d C ty H u = some v := by
 unfold zj6 at ht
 cases hy : C.tys.get ty with
 | none => rw [hy] at ht; cases ht
 | some y =>
  rw [hy] at ht; have ht : y.desc.tag = 4 := ht
  unfold z4d; rw [hy, zad]; unfold zbw at h; unfold z4f
  cases u <;> simp only [zab.asSlice, zab.asStr, zab.asMap, zab.tag] at h ⊢ <;> (try (rw [zae] at h; exact absurd h.1 (by decide)))
  case nilslice =>
   rw [zae] at h; have hn : y.desc.asArr = none := by cases hd : y.desc <;> rw [hd] at ht <;> first | rfl | (cases ht; done)
   rw [hn, ht]; simp only [zac, zae]; exact ⟨0, ⟨rfl, rfl⟩, h.2⟩
  case slice a b n m =>
   rw [ht]
   cases h; simp only [zac, zae]; exact ⟨n, ⟨rfl, rfl⟩, rfl⟩
theorem z77 {ty : Nat} {u v : zab} {H H' : zaf} (ht : zj6 C ty ≠ 6) (h : z4d C ty H u = some v) : z4d C ty H' u = some v := by
 unfold z4d at h ⊢
 simp only [zac] at h ⊢
 obtain ⟨y, h1, n, h2, h3⟩ := h
 refine ⟨y, h1, n, ?_, h3⟩
 have ht : ¬ Nat.beq y.desc.tag 6 = true := by
  intro hb; apply ht; unfold zj6; rw [h1]; exact zck.1 hb
 unfold z4f at h2 ⊢
 split at h2
 ·exact h2
 ·split at h2
  ·exact h2
  ·split at h2
   ·exact h2
   ·split at h2
    ·rw [zae] at h2; exact absurd h2.1 ht
    ·exact h2
theorem z5x {ty : Nat} {a v : zab} {l h : Option zab} {H H' : zaf} (ht : zj6 C ty = 2) (hx : zcr C ty H a l h = some v) : zcr C ty H' a l h = some v := by
 unfold zcr at hx ⊢
 rw [zac] at hx ⊢
 obtain ⟨y, h1, h2⟩ := hx
 refine ⟨y, h1, ?_⟩
 unfold zj6 at ht; rw [h1] at ht; have ht : y.desc.tag = 2 := ht
 unfold zfx at h2 ⊢
 have n1 : y.desc.asSlice = none := by cases hd : y.desc <;> rw [hd] at ht <;> first | rfl | (cases ht; done)
 have n2 : y.desc.asArr = none := by cases hd : y.desc <;> rw [hd] at ht <;> first | rfl | (cases ht; done)
 split at h2
 ·exact h2
 ·split at h2
  ·rw [n1] at h2; cases h2
  ·split at h2
   ·rw [n2] at h2; cases h2
   ·exact h2
theorem zpq {u : zab} (h : zab.one u = true) : u.cells = [u] := by
 cases u <;> first
  | rfl
  | (have := zcz.1 h; simp [zab.tag] at this)
theorem z3q {tyAt : Nat -> Option Nat} (place : Nat -> Option (Nat × Nat)) : ∀ (vs : List (Nat × zab)) {q : List (Nat × zab × List zab) × List zab}, z6l C tyAt vs = some q -> zgv zab.one q.2 = true -> ∀ cells l, zzch place q.1 cells = some l -> zob place vs cells = some l := by
 intro vs; induction vs with
 | nil => intro q h _ cells l hl; cases h; exact hl
 | cons p vs ih =>
  intro q h h1 cells l hl; have h : (ob (tyAt p.1) fun t => ob (C.tys.get t) fun ty => ob (z6l C tyAt vs) fun r => some (bif ty.desc.isAgg then ((p.1, p.2, p.2.cells) :: r.1, r.2) else ((p.1, p.2, [p.2]) :: r.1, p.2 :: r.2))) = some q := h
  simp only [zac] at h; obtain ⟨ty, _, y, _, r, h3, h4⟩ := h
  have fin : ∀ (rest : List zab), zgv zab.one r.2 = true -> (ob (place p.1) fun q => ob (zzcg cells q.1 q.2 p.2.cells) fun cells => zzch place r.1 cells) = some l -> zob place (p :: vs) cells = some l := by
   intro _ hr hl; show (ob (place p.1) fun q => ob (zm8 cells q.1 q.2 p.2) fun cells => zob place vs cells) = some l
   simp only [zac] at hl ⊢
   obtain ⟨a, g1, b, g2, g3⟩ := hl
   exact ⟨a, g1, b, g2, ih h3 hr _ _ g3⟩
  cases hb : y.desc.isAgg with
  | true =>
   rw [hb] at h4
   cases h4; exact fin [] h1 hl
  | false =>
   rw [hb] at h4
   cases h4; rw [zda, cond_false] at h1; simp only [ybh, yac] at h1; have hl : (ob (place p.1) fun q => ob (zzcg cells q.1 q.2 [p.2]) fun cells => zzch place r.1 cells) = some l := hl
   rw [<- zpq h1.1] at hl; exact fin [] (by rw [zda]; exact h1.2) hl
theorem zze1 (he : zni e eA) (ha : znj ν ae eA) (ho : Ov C.base t X HA) (hl : z9x C.base X0 X ν lo) {op : Op} (h : wpT C.base W J (tL C op e ae lo k) t Q)
  (hK : ∀ v, wpT C.base W J (k.K v) t Q -> R v) (hKd : ∀ v, wpT C.base W J (k.Kd v) t Q -> R v) (hKA : ∀ d off, wpT C.base W J (k.KA d off) t Q -> R (.ptr (ν d) off)) :
  ∃ v, (zbj op).f C eA HA = some v /\ R v := by
 cases op <;> simp only [tL] at h <;> try (cases h; done)
 case move x =>
  unfold zzaj at h; split at h
  ·rename_i p hp
   exact ⟨_, zox ha hp, hKA _ _ h⟩
  ·exact ze6 he (.inl rfl) h hKd
 case assign x =>
  unfold zzaj at h; split at h
  ·rename_i p hp
   exact ⟨_, zox ha hp, hKA _ _ h⟩
  ·exact ze6 he (.inl rfl) h hKd
 case pick c a b => exact ze6 he (.inl rfl) h hKd
 case load ty a =>
  unfold tLoad at h; split at h
  ·rename_i p hp
   simp only [za4, zfm] at h; obtain ⟨l, h1, y, h2, h3, v, h4, h5⟩ := h
   refine ⟨v, ?_, hKd v h5⟩
   show zpy ty a C eA HA = some v
   rw [z7n, zox ha hp, zad]; exact z06 ho hl h1 h2 h3 h4
  ·rw [za4] at h
   obtain ⟨u, h1, h2⟩ := h
   rw [zjg] at h2; obtain ⟨v, h3, h4⟩ := h2
   refine ⟨v, ?_, hK v h4⟩
   show zpy ty a C eA HA = some v
   rw [z7n, zap he h1, zad]; exact zrn ho.le h3
 case nilCheck x =>
  unfold tNil at h; split at h
  ·rename_i p hp
   refine ⟨_, ?_, hKA _ _ h⟩
   show zzbt x C eA HA = _
   rw [zzdx (zox ha hp)]; rfl
  ·rw [za4] at h
   obtain ⟨u, h1, h2⟩ := h
   rw [zj3] at h2; obtain ⟨v, h3, h4⟩ := h2
   refine ⟨v, ?_, hK v h4⟩
   show zzbt x C eA HA = _
   rw [zzdx (zap he h1)]; exact h3
 case binOp op ty x y u =>
  unfold tBin at h; rw [zak] at h; split at h
  ·exact ze6 he (.inl rfl) h hKd
  ·simp only [za4, zj3] at h
   obtain ⟨a, h1, b, h2, v, h3, h4⟩ := h
   refine ⟨v, ?_, hK v h4⟩
   show z7s op ty x y C eA HA = _
   rw [lBin_v (zap he h1) (zap he h2)]; exact h3
 case unOp o ty x =>
  split at h
  ·simp only [za4, zj3] at h
   obtain ⟨u, h1, v, h2, h3⟩ := h
   refine ⟨v, ?_, hK v h3⟩
   show lUn .xor x C eA HA = _
   unfold lUn; rw [zap he h1]; exact h2
  ·exact ze6 he (.inl rfl) h hKd
 case convert s d x =>
  unfold zze3 at h; rw [zak] at h; split at h
  ·rename_i hd
   rw [zak] at h; split at h
   ·rename_i hs
    exact ze6 he (.inr (.inl ⟨s, d, x, rfl, .inr (zck.1 hs)⟩)) h hKd
   ·simp only [za4, zjg] at h
    obtain ⟨u, h1, v, h2, h3⟩ := h
    refine ⟨v, ?_, hK v h3⟩
    show zj0 s d x C eA HA = _
    rw [z7q (zap he h1)]; exact z18 ho.le h2
  ·rw [zak] at h
   split at h
   ·rename_i hd
    exact ze6 he (.inr (.inl ⟨s, d, x, rfl, .inl (zck.1 hd)⟩)) h hKd
   ·cases h
 case makeInterface ty x => exact ze6 he (.inl rfl) h hKd
 case makeFunc fn a b => exact ze6 he (.inl rfl) h hKd
 case slice ty x lo' hi mx =>
  cases mx with
  | some _ => cases h
  | none =>
   simp only [zzdf, za4] at h; obtain ⟨a, h1, l, h2, r, h3, h4⟩ := h
   rw [zak] at h4; show ∃ v, zlp ty x lo' hi C eA HA = some v /\ R v
   rw [zzbs (zap he h1) (z1r he h2) (z1r he h3)]
   split at h4
   ·rename_i ht
    rw [zj3] at h4; obtain ⟨v, h5, h6⟩ := h4
    exact ⟨v, z5x (zck.1 ht) h5, hK v h6⟩
   ·rw [zjg] at h4
    obtain ⟨v, h5, h6⟩ := h4
    exact ⟨v, zxx ho.le h5, hK v h6⟩
 case fieldAddr s x f =>
  unfold zrr at h; show ∃ v, zc3 s x f C eA HA = some v /\ R v
  split at h
  ·rename_i p hp
   rw [za4] at h; obtain ⟨o, h1, h2⟩ := h
   refine ⟨_, ?_, hKA _ _ h2⟩
   rw [znt (zox ha hp)]
   unfold zjj; rw [h1]; rfl
  ·simp only [za4, zj3] at h
   obtain ⟨u, h1, v, h2, h3⟩ := h
   refine ⟨v, ?_, hK v h3⟩
   rw [znt (zap he h1)]; exact h2
 case field ty x f => exact ze6 he (.inl rfl) h hKd
 case indexAddr ty x i =>
  unfold zrq at h; show ∃ v, zc2 ty x i C eA HA = some v /\ R v
  split at h
  ·rename_i p hp
   simp only [za4] at h; obtain ⟨iv, h1, n, h2, o, h3, h4⟩ := h
   refine ⟨_, ?_, hKA _ _ h4⟩
   rw [znr (zox ha hp) (zap he h1)]
   unfold z0a at h3; simp only [zac, zae] at h3; obtain ⟨y, g1, a, g2, et, g3, g4, g5⟩ := h3
   cases g5
   unfold zaj; rw [g1, zad, h2, zad]; simp only [zab.asSlice, zab.asPtr, zad]; rw [g2, zad, g3, zad, g4]; rfl
  ·simp only [za4, zj3] at h
   obtain ⟨u, h1, w, h2, v, h3, h4⟩ := h
   refine ⟨v, ?_, hK v h4⟩
   rw [znr (zap he h1) (zap he h2)]; exact h3
 case index ty x i =>
  rw [zak] at h; split at h
  ·exact ze6 he (.inl rfl) h hKd
  ·simp only [za4, zj3] at h
   obtain ⟨u, h1, w, h2, v, h3, h4⟩ := h
   refine ⟨v, ?_, hK v h4⟩
   show zi4 ty x i C eA HA = _
   rw [zzbv (zap he h1) (zap he h2)]; exact h3
 case lookup ty x i ok =>
  simp only [za4, zjg] at h; obtain ⟨m, h1, key, h2, v, h3, h4⟩ := h
  refine ⟨v, ?_, hK v h4⟩
  show zgl ty x i ok C eA HA = _
  rw [z7m (zap he h1) (zap he h2)]; exact zu6 ho.le h3
 case extract x i =>
  simp only [za4, zj3] at h; obtain ⟨u, h1, v, h2, h3⟩ := h
  refine ⟨v, ?_, hK v h3⟩
  show zeu x i C eA HA = _
  rw [z3a (zap he h1)]; exact h2
 case typeAssert x a u ok =>
  simp only [za4, zj3] at h; obtain ⟨w, h1, v, h2, h3⟩ := h
  refine ⟨v, ?_, hK v h3⟩
  show zgm x u ok C eA HA = _
  rw [z7t (zap he h1)]; exact h2
 case build ty ps =>
  unfold zzdh at h; simp only [za4, zfm] at h; obtain ⟨y, h1, hbd, vs, h2, q, h3, l, h4, h5⟩ := h
  have h5 : if zgv zab.one q.2 = true then wpT C.base W J (k.Kd (.agg l)) t Q else False := h5
  split at h5
  ·rename_i hone
   refine ⟨_, ?_, hKd _ h5⟩
   show zkb ty ps C eA HA = _
   have hf := z3q (zsa C y) vs h3 hone y.zero l h4
   unfold zkb; rw [h1, zad, zue he h2, zad]
   cases hs : y.desc.asStruct with
   | some fs =>
    simp only []; have : (fun i => ob (zds fs i) fun x => some (x.1, x.2.2)) = zsa C y := by funext i; unfold zsa; rw [hs]
    rw [this, hf]; rfl
   | none =>
    simp only []; unfold zw6 at hbd; rw [hs] at hbd; simp only [] at hbd
    cases ha : y.desc.asArr with
    | none => rw [ha] at hbd; cases hbd
    | some a =>
     rw [ha] at hbd; simp only [] at hbd
     cases hy : C.tys.get a.2 with
     | none => rw [hy] at hbd; cases hbd
     | some et =>
      simp only [zad]; have : (fun i => some (i * et.size, et.size)) = zsa C y := by funext i; unfold zsa; rw [hs]; simp only []; rw [ha, zad, hy, zad]
      rw [hy, zad, this, hf]; rfl
  ·exact h5.elim
 case call c =>
  split at h
  ·rename_i b hb
   cases b <;> simp only [zk7] at h <;> try (cases h; done)
   case len =>
    unfold tLen at h; simp only [za4] at h; obtain ⟨ty, h1, x, h2, u, h3, h4⟩ := h
    show ∃ v, (zfa c c.callee).f C eA HA = some v /\ R v
    rw [hb]; show ∃ v, zy0 c C eA HA = some v /\ R v
    rw [lLen_v h1 h2 (zap he h3)]
    rw [zak] at h4; split at h4
    ·rename_i ht
     rw [zj3] at h4; obtain ⟨v, h5, h6⟩ := h4
     exact ⟨v, z4s (zck.1 ht) h5, hK v h6⟩
    ·rw [zak] at h4
     split at h4
     ·rw [zjg] at h4
      obtain ⟨v, h5, h6⟩ := h4
      exact ⟨v, z4r ho.le h5, hK v h6⟩
     ·rename_i ht
      rw [za4] at h4; obtain ⟨v, h5, h6⟩ := h4
      exact ⟨v, z77 (fun e => ht (zck.2 e)) h5, hKd v h6⟩
   case max => exact ze6 he (.inr (.inr ⟨c, rfl, .inl hb⟩)) h hKd
   case min => exact ze6 he (.inr (.inr ⟨c, rfl, .inr hb⟩)) h hKd
  ·cases h
end
end Go.Am
namespace Go.Am
open Go Go.RowKit
def zzo (C : Ctx) (A : Tr zbv) (f : Nat) (args : List zab) (H : zaf) : zbg :=
 bif Nat.blt f yo then
  match C.prims.get f with
  | some g => g args H
  | none => fnV C A (.func f) args H
 else fnV C A (.yld (f - yo)) args H
theorem zl5 {C : Ctx} {A : Tr zbv} {f : Nat} {args : List zab} {H : zaf} (h : Nat.blt f yo = true) : zzo C A f args H = (match C.prims.get f with
  | some g => g args H
  | none => fnV C A (.func f) args H) := by unfold zzo; rw [h]; rfl
theorem zw3 {C : Ctx} {A : Tr zbv} {l : Nat} {args : List zab} {H : zaf} : zzo C A (yo + l) args H = fnV C A (.yld l) args H := by
 unfold zzo; have : Nat.blt (yo + l) yo = false := Bool.eq_false_iff.2 fun e => by have := zcz.1 e; omega
 rw [this, Nat.add_sub_cancel_left]; rfl
def Res (base : Nat) (X0 : Xt) (Q : zay) (d : zbg) : Prop := ∃ v t' HA' X', d = some (v, HA') /\ Ov base t' X' HA' /\ XLe X0 X' /\ Q v t'
theorem Res.mono {base : Nat} {X0 : Xt} {Q Q' : zay} {d : zbg} (h : Res base X0 Q d) (k : ∀ v t, Q v t -> Q' v t) : Res base X0 Q' d := by
 obtain ⟨v, t', HA', X', h1, h2, h3, h4⟩ := h
 exact ⟨v, t', HA', X', h1, h2, h3, k _ _ h4⟩
def zje (C : Ctx) (A : Tr zbv) (W : zgy) : Prop := ∀ f args t R, W f args t R -> ∀ X HA, Ov C.base t X HA -> Res C.base X R (zzo C A f args HA)
section
variable {W J : zgy} {t : Tr zam} {X X0 : Xt} {HA : zaf} {e eA : Env} {C : Ctx} {A : Tr zbv} {ν : Nat -> Nat} {ae : zux} {lo : Tr (List zab)} {k : KOp} {kl : KLo} {Q : zay}
theorem zhg {f : LOp} {H : zaf} {v : zab} (h : f C e H = some v) : lv f C e H = .val v H := by unfold lv; rw [h]
theorem z9m {op : Op} {H : zaf} {v : zab} (h : (zbj op).f C e H = some v) : (aop op).f C e H = .val v H := by
 cases op
 case move x => exact zhg h
 case assign x => exact zhg h
 case pick c a b => exact zhg h
 case load t a => exact zhg h
 case nilCheck x => exact zhg h
 case binOp op t x y u => exact zhg h
 case unOp op t x => exact zhg h
 case makeInterface t x => exact zhg h
 case makeFunc fn a b => exact zhg h
 case slice t x lo hi mx => exact zhg h
 case fieldAddr s x f => exact zhg h
 case field t x f => exact zhg h
 case indexAddr t x i => exact zhg h
 case index t x i => exact zhg h
 case extract t i => exact zhg h
 case build t ps => exact zhg h
 case typeAssert x t u ok => exact zhg h
 case lookup t x i ok => exact zhg h
 case convert s d x =>
  show zfj s d x C e H = _
  have h : zj0 s d x C e H = some v := h
  unfold zfj; rw [h]
 case call c =>
  have h : (zfa c c.callee).f C e H = some v := h
  show (zm4 c c.callee).f C e H = _
  cases hc : c.callee with
  | value f => rw [hc] at h; cases h
  | invoke a b => rw [hc] at h; cases h
  | builtin b =>
   rw [hc] at h
   cases b
   case len => exact zhg (f := zy0 c) h
   case max => exact zhg (f := z7l c) h
   case min => exact zhg (f := z7j c) h
   all_goals exact absurd (show (none : Option zab) = some v from h) (by simp)
 all_goals exact absurd (show (none : Option zab) = some v from h) (by simp)
theorem zg3 {x : Option (zab × zaf)} {v : zab} {H' : zaf} {kd : zab -> zaf -> zbg} {φ : Ora} (h : x = some (v, H')) : zio φ (ztk x) HA kd = kd v H' := by subst h; rfl
theorem zis (ho : Ov C.base t X HA) {x : zaf -> Option (zab × zaf)} (hx : z39 C.base x) {K : zab -> T} (h : wpT C.base W J (.heavy x K) t Q) {kd : zab -> zaf -> zbg} {φ : Ora}
  (hK : ∀ v t' HA' X', Ov C.base t' X' HA' -> XLe X X' -> wpT C.base W J (K v) t' Q -> Res C.base X0 Q (kd v HA')) {r : zq3} (hr : ∀ p, x HA = some p -> zio φ r HA kd = kd p.1 p.2) : Res C.base X0 Q (zio φ r HA kd) := by
 have h := h HA.next ho.nextT ho.base
 rw [zer] at h; obtain ⟨⟨v, H'⟩, h1, h2⟩ := h
 obtain ⟨HA', h3, h4⟩ := hx _ _ _ _ _ ho h1
 rw [hr _ h3]; exact hK v _ _ _ h4 (XLe.refl _) h2
theorem zzgk (hW : zje C A W) (ho : Ov C.base t X HA) {f : Nat} (hf : Nat.blt f yo = true) {args : List zab} {K : zab -> T} (h : W f args t fun v t' => wpT C.base W J (K v) t' Q) {kd : zab -> zaf -> zbg}
  (hK : ∀ v t' HA' X', Ov C.base t' X' HA' -> XLe X X' -> wpT C.base W J (K v) t' Q -> Res C.base X0 Q (kd v HA')) : Res C.base X0 Q (zio (fnV C A) (zst C HA args f (C.prims.get f)) HA kd) := by
 obtain ⟨v, t', HA', X', h1, h2, h3, h4⟩ := hW _ _ _ _ h X HA ho
 rw [zl5 hf] at h1; unfold zst
 cases hp : C.prims.get f with
 | some g =>
  rw [hp] at h1; simp only [h1]; exact hK _ _ _ _ h2 h3 h4
 | none =>
  rw [hp] at h1; have h1 : fnV C A (.func f) args HA = some (v, HA') := h1
  show Res C.base X0 Q (ob (fnV C A (.func f) args HA) fun p => kd p.1 p.2)
  rw [h1]; exact hK _ _ _ _ h2 h3 h4
theorem zza2 (hW : zje C A W) (ho : Ov C.base t X HA) {l : Nat} {args : List zab} {K : zab -> T} (h : W (yo + l) args t fun v t' => wpT C.base W J (K v) t' Q) {kd : zab -> zaf -> zbg}
  (hK : ∀ v t' HA' X', Ov C.base t' X' HA' -> XLe X X' -> wpT C.base W J (K v) t' Q -> Res C.base X0 Q (kd v HA')) : Res C.base X0 Q (zio (fnV C A) (.round l args) HA kd) := by
 obtain ⟨v, t', HA', X', h1, h2, h3, h4⟩ := hW _ _ _ _ h X HA ho
 rw [zw3] at h1; show Res C.base X0 Q (ob (fnV C A (.yld l) args HA) fun p => kd p.1 p.2)
 rw [h1]; exact hK _ _ _ _ h2 h3 h4
theorem Ov.setX {base : Nat} (h : Ov base t X HA) {b : Nat} {y : zam} (hb : X b = some y) (z : zam) : Ov base t (fun c => if c = b then some z else X c) (Am.setBlk HA b z) := by
 obtain ⟨g1, g2, g3⟩ := h.ext b y hb
 refine ⟨h.base, fun c hc => ?_, fun c u hc => ?_, h.lt⟩
 ·split at hc
  ·cases hc
  ·rename_i hne
   show (HA.t.set b z).get c = _
   rw [Tr.get_set, if_neg hne]; exact h.same c hc
 ·show (HA.t.set b z).get c = _ /\ _ /\ c < HA.next
  rw [Tr.get_set]; split at hc
  ·rename_i e; cases hc; subst e; rw [if_pos rfl]; exact ⟨rfl, g2, g3⟩
  ·rename_i hne; rw [if_neg hne]; exact h.ext c u hc
theorem Ov.newX {base : Nat} (h : Ov base t X HA) (z : zam) : Ov base t (fun c => if c = HA.next then some z else X c) (Am.newBlk HA z) := by
 refine ⟨Nat.le_succ_of_le h.base, fun c hc => ?_, fun c u hc => ?_, fun b y hb => Nat.lt_succ_of_lt (h.lt b y hb)⟩
 ·split at hc
  ·cases hc
  ·rename_i hne
   show (HA.t.set HA.next z).get c = _
   rw [Tr.get_set, if_neg hne]; exact h.same c hc
 ·show (HA.t.set HA.next z).get c = _ /\ _ /\ c < HA.next + 1
  rw [Tr.get_set]; split at hc
  ·rename_i e; cases hc; subst e; rw [if_pos rfl]; exact ⟨rfl, h.nextT, Nat.lt_succ_self _⟩
  ·rename_i hne; rw [if_neg hne]; have := h.ext c u hc; exact ⟨this.1, this.2.1, Nat.lt_succ_of_lt this.2.2⟩
theorem z64 (ho : Ov C.base t X HA) (hl : z9x C.base X0 X ν lo) {d off : Nat} {l l' : List zab} {u : zab} {sz : Nat} (h1 : lo.get d = some l) (h2 : zm8 l off sz u = some l') (h3 : zgv zab.one u.cells = true) :
  Nat.beq (zbp u.cells) sz = true /\ l'.length = l.length /\ ∃ c', zd3 C HA (ν d) off u.cells = some (setBlk HA (ν d) (.cells c' l.length none)) /\ ∀ j a, l'[j]? = some a -> c'.get j = some a := by
 obtain ⟨_, hb, c, hc, hg⟩ := hl d l h1
 have hx := (ho.ext _ _ hc).1
 unfold zm8 at h2; simp only [zae, yac, zhm, zav, zbx, zfi, zf5, Option.some.injEq] at h2; obtain ⟨⟨g1, g2⟩, g3⟩ := h2
 subst g3; refine ⟨by rw [zav]; exact g1, ?_, c.setMany u.cells off, ?_, ?_⟩
 ·simp; omega
 ·unfold zd3
  have n1 : (!Nat.blt (ν d) C.base) = true := by
   cases hq : Nat.blt (ν d) C.base with
   | true => have := zcz.1 hq; omega
   | false => rfl
  rw [n1]; unfold zaq; rw [hx]; simp only [zae, zad, zam.asCells, yac, zhm, zav]; exact ⟨trivial, ⟨g2, h3⟩, trivial⟩
 ·intro j a hj
  rw [Tr.get_setMany]; split
  ·rename_i hh
   rw [yaq (by simp; omega)] at hj
   rw [ybp (by simp; omega)] at hj
   rw [<- hj]; congr 1
   simp; omega
  ·rename_i hh
   refine hg j a ?_
   by_cases hlt : j < off
   ·rw [ybp (by simp; omega)] at hj
    rw [ycg, if_pos hlt] at hj; exact hj
   ·rw [yaq (by simp; omega), yaq (by simp; omega)] at hj
    rw [ycf] at hj; rw [<- hj]; congr 1
    simp; omega
theorem z88 {y : ATy} {u : zab} (h : zgv zab.one (zsp y u) = true) : zsp y u = u.cells := by
 unfold zsp at h ⊢
 rw [zak] at h ⊢
 split
 ·rfl
 ·rename_i e
  rw [if_neg e, zda] at h; rw [zpq (by simpa using h)]
theorem z2p {op : Op} {v : zab} {kd : zab -> zaf -> zbg} {φ : Ora} (h : (zbj op).f C eA HA = some v) : zio φ ((aop op).f C eA HA) HA kd = kd v HA := by rw [z9m h]; rfl
theorem z7f {la : List Nat} {dst : Option Nat} {d : Nat} (h : laOf la dst = some d) : dst = some d := by
 unfold laOf at h
 cases dst with
 | none => cases h
 | some x => simp only [zak] at h; split at h <;> cases h; rfl
theorem tH_ok (hW : zje C A W) (he : zni e eA) (ha : znj ν ae eA) (ho : Ov C.base t X HA) (hl : z9x C.base X0 X ν lo) {la : List Nat} {dst : Option Nat} {op : Op}
  (h : wpT C.base W J (tH C la dst op e ae lo k kl) t Q) {kd : zab -> zaf -> zbg}
  (hK : ∀ v t' HA' X', Ov C.base t' X' HA' -> XLe X X' -> wpT C.base W J (k.K v) t' Q -> Res C.base X0 Q (kd v HA'))
  (hKd : ∀ v t' HA' X', Ov C.base t' X' HA' -> XLe X X' -> wpT C.base W J (k.Kd v) t' Q -> Res C.base X0 Q (kd v HA'))
  (hKA : ∀ d off, wpT C.base W J (k.KA d off) t Q -> Res C.base X0 Q (kd (.ptr (ν d) off) HA))
  (hnew : ∀ d l, laOf la dst = some d -> wpT C.base W J (kl.new d l) t Q -> Res C.base X0 Q (kd (.ptr HA.next 0) (zaw HA l none)))
  (hset : ∀ d l l' c', lo.get d = some l -> l'.length = l.length -> (∀ j a, l'[j]? = some a -> c'.get j = some a) -> wpT C.base W J (kl.set d l') t Q -> Res C.base X0 Q (kd zba (setBlk HA (ν d) (.cells c' l.length none)))) :
  Res C.base X0 Q (zio (fnV C A) ((aop op).f C eA HA) HA kd) := by
 have light : ∀ (op : Op), wpT C.base W J (tL C op e ae lo k) t Q -> Res C.base X0 Q (zio (fnV C A) ((aop op).f C eA HA) HA kd) := by
  intro op h; obtain ⟨v, h1, h2⟩ := zze1 (R := fun v => Res C.base X0 Q (kd v HA)) he ha ho hl h (fun v h => hK v _ _ _ ho (XLe.refl _) h) (fun v h => hKd v _ _ _ ho (XLe.refl _) h) hKA
  rw [z2p h1]; exact h2
 cases op <;> simp only [tH] at h <;> try (exact light _ h)
 case alloc ty =>
  show Res C.base X0 Q (zio _ (zny ty C eA HA) HA kd)
  rw [zak] at h; split at h
  ·rename_i ht
   have ht : zhn C ty = none := by
    cases hx : zhn C ty with
    | none => rfl
    | some _ => rw [hx] at ht; cases ht
   split at h
   ·rename_i d hd
    rw [za4] at h; obtain ⟨y, h1, h2⟩ := h
    unfold zny; rw [h1, ht]; exact hnew d _ hd h2
   ·refine zis ho z4u h hK fun p hp => ?_
    unfold zny; rw [ht]; have hp : (ob (C.tys.get ty) fun ty => some (.ptr HA.next 0, zaw HA ty.zero none)) = some p := hp
    rw [hp]; rfl
  ·refine zis ho z2a h hK fun p hp => ?_
   unfold zny; unfold zs3 at hp; rw [hp]; rfl
 case box ty x =>
  rw [zak] at h; show Res C.base X0 Q (zio _ (zzb7 ty x C eA HA) HA kd)
  unfold zzb7; split at h
  ·rename_i ht
   have ht : zhn C ty = none := by
    cases hx : zhn C ty with
    | none => rfl
    | some _ => rw [hx] at ht; cases ht
   rw [za4] at h; obtain ⟨v, h1, h⟩ := h
   rw [zap he h1, ht]; split at h
   ·rename_i d hd
    rw [za4] at h; obtain ⟨y, _, h⟩ := h
    rw [zak] at h; split at h
    ·exact hnew d _ hd h
    ·have h : if zab.one v = true then wpT C.base W J (kl.new d [v]) t Q else False := h
     split at h
     ·rename_i h1
      have := hnew d _ hd h
      rw [<- zpq h1] at this; exact this
     ·exact h.elim
   ·refine zis ho zzew h hK fun p hp => ?_
    cases hp; rfl
  ·rw [za4] at h
   obtain ⟨v, h1, h⟩ := h
   rw [zap he h1]; refine zis ho zzac h hK fun p hp => ?_
   cases hp; rfl
 case buildSlice ty n ps =>
  rw [za4] at h; obtain ⟨vs, h1, h⟩ := h
  show Res C.base X0 Q (zio _ (zdt ty n ps C eA HA) HA kd)
  refine zis ho zq5 h hK fun p hp => ?_
  refine zg3 (v := p.1) (H' := p.2) ?_
  rw [zue he h1]; exact hp
 case makeMap ty r =>
  cases r with
  | some _ => simp only [] at h; exact light _ h
  | none =>
   simp only [] at h; show Res C.base X0 Q (zio _ (zlt none C eA HA) HA kd)
   refine zis ho zxy h hK fun p hp => ?_
   cases hp; rfl
 case makeSlice ty l c =>
  simp only [za4] at h; obtain ⟨a, h1, b, h2, h⟩ := h
  show Res C.base X0 Q (zio _ (zm3 ty l c C eA HA) HA kd)
  refine zis ho zs2 h hK fun p hp => ?_
  refine zg3 (v := p.1) (H' := p.2) ?_
  rw [zap he h1, zap he h2]; unfold zcp at hp
  cases hx : C.tys.get ty with
  | none => rw [hx] at hp; cases hp
  | some y =>
   rw [hx] at hp; simp only [zad] at hp ⊢
   exact hp
 case store ty a x =>
  unfold zzde at h; show Res C.base X0 Q (zio _ (zwm ty a x C eA HA) HA kd)
  split at h
  ·rename_i p hp
   simp only [za4] at h; obtain ⟨u, h1, y, h2, l, h3, l', h4, h5⟩ := h
   have h5 : if zgv zab.one (zsp y u) = true then wpT C.base W J (kl.set p.1 l') t Q else False := h5
   split at h5
   ·rename_i hone
    have hcell := z88 hone
    rw [hcell] at hone h4; have h4 : zm8 l p.2 y.size u = some l' := h4
    obtain ⟨g1, g2, c', g3, g4⟩ := z64 ho hl h3 h4 hone
    have := hset p.1 l l' c' h3 g2 g4 h5
    have e1 : zio (fnV C A) (zwm ty a x C eA HA) HA kd = kd zba (setBlk HA (ν p.1) (.cells c' l.length none)) := by
     refine zg3 ?_
     rw [h2, zad, zox ha hp, zad]; simp only [zab.asPtr, zad]; rw [zap he h1, zad, g1, g3]; rfl
    rw [e1]; exact this
   ·exact h5.elim
  ·simp only [za4] at h
   obtain ⟨av, h1, u, h2, h⟩ := h
   refine zis ho z4q h hKd fun p hp => ?_
   refine zg3 (v := p.1) (H' := p.2) ?_
   rw [zap he h1]; unfold zb6 at hp
   cases hx : C.tys.get ty with
   | none => rw [hx] at hp; cases hp
   | some y =>
    rw [hx] at hp; simp only [zad] at hp ⊢
    rw [zap he h2]; exact hp
 case convert s d x =>
  rw [zak] at h; split at h
  ·rename_i hd
   rw [za4] at h; obtain ⟨u, h1, h⟩ := h
   show Res C.base X0 Q (zio _ (zfj s d x C eA HA) HA kd)
   have hn : zj0 s d x C eA HA = none := by
    rw [z7q (zap he h1)]
    cases hq : zkk C s d HA u with
    | none => rfl
    | some q =>
     exfalso
     unfold zkk at hq; simp only [zac] at hq; obtain ⟨sy, g1, dy, g2, g3⟩ := hq
     have hd := zck.1 hd
     unfold zj6 at hd; rw [g2] at hd; have hd : dy.desc.tag = 4 := hd
     unfold znc at g3; have n1 : dy.desc.asInt = none := by cases hz : dy.desc <;> rw [hz] at hd <;> first | rfl | (cases hd; done)
     have n2 : dy.desc.isString = false := by unfold zb9.isString; rw [hd]; rfl
     rw [n1, n2] at g3
     cases g3
   unfold zfj; rw [hn]; simp only []; refine zis ho zxw h hK fun p hp => ?_
   refine zg3 (v := p.1) (H' := p.2) ?_
   rw [zap he h1]; exact hp
  ·exact light _ (by simpa only [tL] using h)
 case insert ty m key x =>
  simp only [za4] at h; obtain ⟨mv, h1, kv, h2, u, h3, h⟩ := h
  show Res C.base X0 Q (zio _ (zi9 ty m key x C eA HA) HA kd)
  refine zis ho zrm h hKd fun p hp => ?_
  refine zg3 (v := p.1) (H' := p.2) ?_
  rw [zap he h1, zap he h2, zap he h3]; exact hp
 case mapUpdate ty m key x =>
  simp only [za4] at h; obtain ⟨mv, h1, kv, h2, u, h3, h⟩ := h
  show Res C.base X0 Q (zio _ (zi9 ty m key x C eA HA) HA kd)
  refine zis ho zrm h hKd fun p hp => ?_
  refine zg3 (v := p.1) (H' := p.2) ?_
  rw [zap he h1, zap he h2, zap he h3]; exact hp
 case call c =>
  show Res C.base X0 Q (zio _ ((zm4 c c.callee).f C eA HA) HA kd)
  split at h
  ·rename_i f hc
   rw [hc]; show Res C.base X0 Q (zio _ (zqa f c.args C eA HA) HA kd)
   have fin : ∀ {fv : zab} {as : List zab}, ev f e = some fv -> evs c.args.toList e = some as -> wpT C.base W J (.callv fv as k.K) t Q -> Res C.base X0 Q (zio (fnV C A) (zqa f c.args C eA HA) HA kd) := by
    intro fv as h1 h2 h; have h : zd0 (zw7 fv as) fun p => W p.1 p.2 t fun v t' => wpT C.base W J (k.K v) t' Q := h
    rw [zer] at h; obtain ⟨⟨g, as'⟩, h3, h4⟩ := h
    unfold zw7 at h3; rw [zac] at h3; obtain ⟨p, h5, h6⟩ := h3
    have e0 : zqa f c.args C eA HA = zzgl C HA (zem p.2.1 as) p.2.2 p.1 := by
     unfold zqa zeq; rw [zap he h1, zad, h5, zad, zud he h2, zad, zad]; rfl
    rw [e0]
    cases hp : p.1 with
    | func g' =>
     rw [hp] at h6; simp only [zae] at h6; obtain ⟨hg, h6⟩ := h6
     cases h6; exact zzgk hW ho hg h4 hK
    | yld l =>
     rw [hp] at h6; simp only [zae, yac] at h6; obtain ⟨⟨ha, hb⟩, h6⟩ := h6
     cases h6; have ea : p.2.1 = [] := by cases hx : p.2.1 with | nil => rfl | cons _ _ => rw [hx] at ha; cases ha
     have eb : p.2.2 = [] := by cases hx : p.2.2 with | nil => rfl | cons _ _ => rw [hx] at hb; cases hb
     rw [ea, eb]; exact zza2 hW ho h4 hK
   unfold zzdg at h; split at h
   ·rename_i g
    rw [zfm, za4] at h; obtain ⟨hg, as, h1, h⟩ := h
    refine fin (fv := .func (.func g) [] []) rfl h1 ?_
    show zd0 (zw7 (.func (.func g) [] []) as) _
    have e2 : zw7 (.func (.func g) [] []) as = some (g, as) := by
     show zah (Nat.blt g yo) (some (g, zem (zem [] as) [])) = _
     rw [hg, zbx, zbx]; simp [zah]
    rw [e2]; exact h
   ·simp only [za4] at h
    obtain ⟨fv, h1, as, h2, h⟩ := h
    exact fin h1 h2 h
  ·rename_i b hb
   rw [hb]; have lt : wpT C.base W J (zk7 C c e k b) t Q -> Res C.base X0 Q (zio (fnV C A) ((zm4 c (.builtin b)).f C eA HA) HA kd) := by
    intro h; have := light (.call c) (by show wpT C.base W J (match c.callee with | .builtin b => zk7 C c e k b | _ => .fail) t Q; rw [hb]; exact h)
    have e1 : (aop (.call c)).f C eA HA = (zm4 c c.callee).f C eA HA := rfl
    rw [e1, hb] at this; exact this
   unfold zvg at h; split at h
   ·simp only [za4, two'] at h
    obtain ⟨ty, h1, u, h2, p, h3, h⟩ := h
    show Res C.base X0 Q (zio _ (zm5 c C eA HA) HA kd)
    refine zis ho z19 h hK fun q hq => ?_
    refine zg3 (v := q.1) (H' := q.2) ?_
    rw [h1, zad]; unfold zcd at hq; simp only [zac, zae] at hq ⊢
    obtain ⟨y, g1, z, g2, g3, g4⟩ := hq
    exact ⟨y, g1, u, h2, z, g2, g3, p, zs6 he h3, g4⟩
   ·exact lt h
  ·cases h
end
end Go.Am
