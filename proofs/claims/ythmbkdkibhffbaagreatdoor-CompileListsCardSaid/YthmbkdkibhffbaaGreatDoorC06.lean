/- Trees: operations, slots and local blocks are sound. -/
import Derived.Lib.ItoaNum
import Derived.Test.YthmbkdkibhffbaaGreatDoorC05
set_option linter.all false
noncomputable section
namespace Go.Am
open Go Go.RowKit
def zzv (C : Ctx) (A : Tr zdd) (f : Nat) (args : List zab) (H : zai) : zb8 :=
 match C.prims.get f with
 | some g => ob (g args H) fun v => some (v, H)
 | none => fnV C A f args H
def Res (base : Nat) (X0 : Xt) (Q : zaw) (d : zb8) : Prop := ∃ v t' HA' X', d = some (v, HA') /\ Ov base t' X' HA' /\ XLe X0 X' /\ Q v t'
theorem Res.mono {base : Nat} {X0 : Xt} {Q Q' : zaw} {d : zb8} (h : Res base X0 Q d) (k : ∀ v t, Q v t -> Q' v t) : Res base X0 Q' d := by
 obtain ⟨v, t', HA', X', h1, h2, h3, h4⟩ := h
 exact ⟨v, t', HA', X', h1, h2, h3, k _ _ h4⟩
def zm7 (C : Ctx) (A : Tr zdd) (W : zhu) : Prop := ∀ f args t R, W f args t R -> ∀ X HA, Ov C.base t X HA -> Res C.base X R (zzv C A f args HA)
section
variable {W J : zhu} {t : Tr zal} {X X0 : Xt} {HA : zai} {e eA : Env} {C : Ctx} {A : Tr zdd} {ν : Nat -> Nat} {ae : zxr} {lo : Tr (List zab)} {k : KOp} {kl : KLo} {Q : zaw}
theorem zie {f : LOp} {H : zai} {v : zab} (h : f C e H = some v) : lv f C e H = .val v H := by unfold lv; rw [h]
theorem zzah {op : Op} {H : zai} {v : zab} (h : (zb6 op).f C e H = some v) : (aop op).f C e H = .val v H := by
 cases op
 case move x => exact zie h
 case assign x => exact zie h
 case pick c a b => exact zie h
 case load t a => exact zie h
 case nilCheck x => exact zie h
 case binOp op t x y u => exact zie h
 case unOp op t x => exact zie h
 case makeInterface t x => exact zie h
 case makeFunc fn a b => exact zie h
 case slice t x lo hi mx => exact zie h
 case fieldAddr s x f => exact zie h
 case field t x f => exact zie h
 case indexAddr t x i => exact zie h
 case index t x i => exact zie h
 case extract t i => exact zie h
 case build t ps => exact zie h
 case typeAssert x t u ok => exact zie h
 case lookup t x i ok => exact zie h
 case convert s d x =>
  show zfy s d x C e H = _
  have h : zk8 s d x C e H = some v := h
  unfold zfy; rw [h]
 case call c =>
  have h : (zgb c c.callee).f C e H = some v := h
  show (zns c c.callee).f C e H = _
  cases hc : c.callee with
  | value f => rw [hc] at h; cases h
  | invoke a b => rw [hc] at h; cases h
  | builtin b =>
   rw [hc] at h
   cases b
   case len => exact zie (f := z1m c) h
   case max => exact zie (f := z8h c) h
   case min => exact zie (f := z8f c) h
   all_goals exact absurd (show (none : Option zab) = some v from h) (by simp)
 all_goals exact absurd (show (none : Option zab) = some v from h) (by simp)
theorem zh4 {x : Option (zab × zai)} {v : zab} {H' : zai} {kd : zab -> zai -> zb8} {φ : Ora} (h : x = some (v, H')) : zj0 φ (zyk x) HA kd = kd v H' := by subst h; rfl
theorem zll (ho : Ov C.base t X HA) {x : zai -> Option (zab × zai)} (hx : zzaz C.base x) {K : zab -> T} (h : wpT C.base W J (.heavy x K) t Q) {kd : zab -> zai -> zb8} {φ : Ora}
  (hK : ∀ v t' HA' X', Ov C.base t' X' HA' -> XLe X X' -> wpT C.base W J (K v) t' Q -> Res C.base X0 Q (kd v HA')) {r : ztd} (hr : ∀ p, x HA = some p -> zj0 φ r HA kd = kd p.1 p.2) : Res C.base X0 Q (zj0 φ r HA kd) := by
 have h := h HA.next ho.nextT ho.base
 rw [zgs] at h; obtain ⟨⟨v, H'⟩, h1, h2⟩ := h
 obtain ⟨HA', h3, h4⟩ := hx _ _ _ _ _ ho h1
 rw [hr _ h3]; exact hK v _ _ _ h4 (XLe.refl _) h2
theorem zzil (hW : zm7 C A W) (ho : Ov C.base t X HA) {f : Nat} {args : List zab} {K : zab -> T} (h : W f args t fun v t' => wpT C.base W J (K v) t' Q) {kd : zab -> zai -> zb8}
  (hK : ∀ v t' HA' X', Ov C.base t' X' HA' -> XLe X X' -> wpT C.base W J (K v) t' Q -> Res C.base X0 Q (kd v HA')) : Res C.base X0 Q (zj0 (fnV C A) (zq4 C HA args f (C.prims.get f)) HA kd) := by
 obtain ⟨v, t', HA', X', h1, h2, h3, h4⟩ := hW _ _ _ _ h X HA ho
 unfold zzv at h1; unfold zq4
 cases hp : C.prims.get f with
 | some g =>
  rw [hp] at h1; simp only [zad] at h1; obtain ⟨u, g1, g2⟩ := h1
  cases g2
  simp only [g1]; exact hK _ _ _ _ h2 h3 h4
 | none =>
  rw [hp] at h1; have h1 : fnV C A f args HA = some (v, HA') := h1
  show Res C.base X0 Q (ob (fnV C A f args HA) fun p => kd p.1 p.2)
  rw [h1]; exact hK _ _ _ _ h2 h3 h4
theorem Ov.setX {base : Nat} (h : Ov base t X HA) {b : Nat} {y : zal} (hb : X b = some y) (z : zal) : Ov base t (fun c => if c = b then some z else X c) (Am.setBlk HA b z) := by
 obtain ⟨g1, g2, g3⟩ := h.ext b y hb
 refine ⟨h.base, fun c hc => ?_, fun c u hc => ?_, h.lt⟩
 ·split at hc
  ·cases hc
  ·rename_i hne
   show (HA.t.set b z).get c = _
   rw [Tr.get_set, if_neg hne]; exact h.same c hc
 ·show (HA.t.set b z).get c = _ /\ _ /\ c < HA.next
  rw [Tr.get_set]; split at hc
  ·rename_i e; cases hc; subst e; rw [if_pos rfl]; exact ⟨rfl, g2, g3⟩
  ·rename_i hne; rw [if_neg hne]; exact h.ext c u hc
theorem Ov.newX {base : Nat} (h : Ov base t X HA) (z : zal) : Ov base t (fun c => if c = HA.next then some z else X c) (Am.newBlk HA z) := by
 refine ⟨Nat.le_succ_of_le h.base, fun c hc => ?_, fun c u hc => ?_, fun b y hb => Nat.lt_succ_of_lt (h.lt b y hb)⟩
 ·split at hc
  ·cases hc
  ·rename_i hne
   show (HA.t.set HA.next z).get c = _
   rw [Tr.get_set, if_neg hne]; exact h.same c hc
 ·show (HA.t.set HA.next z).get c = _ /\ _ /\ c < HA.next + 1
  rw [Tr.get_set]; split at hc
  ·rename_i e; cases hc; subst e; rw [if_pos rfl]; exact ⟨rfl, h.nextT, Nat.lt_succ_self _⟩
  ·rename_i hne; rw [if_neg hne]; have := h.ext c u hc; exact ⟨this.1, this.2.1, Nat.lt_succ_of_lt this.2.2⟩
theorem z7x (ho : Ov C.base t X HA) (hl : zzas C.base X0 X ν lo) {d off : Nat} {l l' : List zab} {u : zab} {sz : Nat} (h1 : lo.get d = some l) (h2 : znu l off sz u = some l') (h3 : zeb zab.one u.cells = true) :
  Nat.beq (zbw u.cells) sz = true /\ l'.length = l.length /\ ∃ c', zhx C HA (ν d) off u.cells = some (setBlk HA (ν d) (.cells c' l.length none)) /\ ∀ j a, l'[j]? = some a -> c'.get j = some a := by
 obtain ⟨_, hb, c, hc, hg⟩ := hl d l h1
 have hx := (ho.ext _ _ hc).1
 unfold znu at h2; simp only [zae, yac, zj2, zbb, zcl, zjh, zfe, Option.some.injEq] at h2; obtain ⟨⟨g1, g2⟩, g3⟩ := h2
 subst g3; refine ⟨by rw [zbb]; exact g1, ?_, c.setMany u.cells off, ?_, ?_⟩
 ·simp; omega
 ·unfold zhx
  have n1 : (!Nat.blt (ν d) C.base) = true := by
   cases hq : Nat.blt (ν d) C.base with
   | true => have := zdl.1 hq; omega
   | false => rfl
  rw [n1]; unfold za1; rw [hx]; simp only [zae, zac, zal.asCells, yac, zj2, zbb]; exact ⟨trivial, ⟨g2, h3⟩, trivial⟩
 ·intro j a hj
  rw [Tr.get_setMany]; split
  ·rename_i hh
   rw [yaq (by simp; omega)] at hj
   rw [List.getElem?_append_left (by simp; omega)] at hj
   rw [<- hj]; congr 1
   simp; omega
  ·rename_i hh
   refine hg j a ?_
   by_cases hlt : j < off
   ·rw [List.getElem?_append_left (by simp; omega)] at hj
    rw [List.getElem?_take, if_pos hlt] at hj; exact hj
   ·rw [yaq (by simp; omega), yaq (by simp; omega)] at hj
    rw [List.getElem?_drop] at hj; rw [<- hj]; congr 1
    simp; omega
theorem z94 {y : ATy} {u : zab} (h : zeb zab.one (zs9 y u) = true) : zs9 y u = u.cells := by
 unfold zs9 at h ⊢
 rw [zar] at h ⊢
 split
 ·rfl
 ·rename_i e
  rw [if_neg e, zcb] at h; rw [zqe (by simpa using h)]
theorem z28 {op : Op} {v : zab} {kd : zab -> zai -> zb8} {φ : Ora} (h : (zb6 op).f C eA HA = some v) : zj0 φ ((aop op).f C eA HA) HA kd = kd v HA := by rw [zzah h]; rfl
theorem z8b {la : List Nat} {dst : Option Nat} {d : Nat} (h : laOf la dst = some d) : dst = some d := by
 unfold laOf at h
 cases dst with
 | none => cases h
 | some x => simp only [zar] at h; split at h <;> cases h; rfl
theorem tH_ok (hW : zm7 C A W) (he : zo0 e eA) (ha : zn5 ν ae eA) (ho : Ov C.base t X HA) (hl : zzas C.base X0 X ν lo) {la : List Nat} {dst : Option Nat} {op : Op}
  (h : wpT C.base W J (tH C la dst op e ae lo k kl) t Q) {kd : zab -> zai -> zb8}
  (hK : ∀ v t' HA' X', Ov C.base t' X' HA' -> XLe X X' -> wpT C.base W J (k.K v) t' Q -> Res C.base X0 Q (kd v HA'))
  (hKd : ∀ v t' HA' X', Ov C.base t' X' HA' -> XLe X X' -> wpT C.base W J (k.Kd v) t' Q -> Res C.base X0 Q (kd v HA'))
  (hKA : ∀ d off, wpT C.base W J (k.KA d off) t Q -> Res C.base X0 Q (kd (.ptr (ν d) off) HA))
  (hnew : ∀ d l, laOf la dst = some d -> wpT C.base W J (kl.new d l) t Q -> Res C.base X0 Q (kd (.ptr HA.next 0) (za7 HA l none)))
  (hset : ∀ d l l' c', lo.get d = some l -> l'.length = l.length -> (∀ j a, l'[j]? = some a -> c'.get j = some a) -> wpT C.base W J (kl.set d l') t Q -> Res C.base X0 Q (kd zbr (setBlk HA (ν d) (.cells c' l.length none)))) :
  Res C.base X0 Q (zj0 (fnV C A) ((aop op).f C eA HA) HA kd) := by
 have light : ∀ (op : Op), wpT C.base W J (tL C op e ae lo k) t Q -> Res C.base X0 Q (zj0 (fnV C A) ((aop op).f C eA HA) HA kd) := by
  intro op h; obtain ⟨v, h1, h2⟩ := zzgc (R := fun v => Res C.base X0 Q (kd v HA)) he ha ho hl h (fun v h => hK v _ _ _ ho (XLe.refl _) h) (fun v h => hKd v _ _ _ ho (XLe.refl _) h) hKA
  rw [z28 h1]; exact h2
 cases op <;> simp only [tH] at h <;> try (exact light _ h)
 case alloc ty =>
  show Res C.base X0 Q (zj0 _ (zqv ty C eA HA) HA kd)
  split at h
  ·rename_i d hd
   rw [zbq] at h; obtain ⟨y, h1, h2⟩ := h
   unfold zqv; rw [h1]; exact hnew d _ hd h2
  ·refine zll ho z45 h hK fun p hp => ?_
   unfold zqv; unfold zl7 at hp; rw [hp]; rfl
 case box ty x =>
  rw [zbq] at h; obtain ⟨v, h1, h⟩ := h
  show Res C.base X0 Q (zj0 _ (zzc5 x C eA HA) HA kd)
  unfold zzc5; rw [za3 he h1]; split at h
  ·rename_i d hd
   rw [zbq] at h; obtain ⟨y, _, h⟩ := h
   rw [zar] at h; split at h
   ·exact hnew d _ hd h
   ·have h : if zab.one v = true then wpT C.base W J (kl.new d [v]) t Q else False := h
    split at h
    ·rename_i h1
     have := hnew d _ hd h
     rw [<- zqe h1] at this; exact this
    ·exact h.elim
  ·refine zll ho zzf8 h hK fun p hp => ?_
   cases hp; rfl
 case buildSlice ty n ps =>
  rw [zbq] at h; obtain ⟨vs, h1, h⟩ := h
  show Res C.base X0 Q (zj0 _ (zee ty n ps C eA HA) HA kd)
  refine zll ho zrp h hK fun p hp => ?_
  refine zh4 (v := p.1) (H' := p.2) ?_
  rw [zun he h1]; exact hp
 case makeMap ty r =>
  cases r with
  | some _ => simp only [] at h; exact light _ h
  | none =>
   simp only [] at h; show Res C.base X0 Q (zj0 _ (zmt none C eA HA) HA kd)
   refine zll ho zx0 h hK fun p hp => ?_
   cases hp; rfl
 case makeSlice ty l c =>
  simp only [zbq] at h; obtain ⟨a, h1, b, h2, h⟩ := h
  show Res C.base X0 Q (zj0 _ (znr ty l c C eA HA) HA kd)
  refine zll ho ztj h hK fun p hp => ?_
  refine zh4 (v := p.1) (H' := p.2) ?_
  rw [za3 he h1, za3 he h2]; unfold zch at hp
  cases hx : C.tys.get ty with
  | none => rw [hx] at hp; cases hp
  | some y =>
   rw [hx] at hp; simp only [zac] at hp ⊢
   exact hp
 case store ty a x =>
  unfold zzec at h; show Res C.base X0 Q (zj0 _ (z1x ty a x C eA HA) HA kd)
  split at h
  ·rename_i p hp
   simp only [zbq] at h; obtain ⟨u, h1, y, h2, l, h3, l', h4, h5⟩ := h
   have h5 : if zeb zab.one (zs9 y u) = true then wpT C.base W J (kl.set p.1 l') t Q else False := h5
   split at h5
   ·rename_i hone
    have hcell := z94 hone
    rw [hcell] at hone h4; have h4 : znu l p.2 y.size u = some l' := h4
    obtain ⟨g1, g2, c', g3, g4⟩ := z7x ho hl h3 h4 hone
    have := hset p.1 l l' c' h3 g2 g4 h5
    have e1 : zj0 (fnV C A) (z1x ty a x C eA HA) HA kd = kd zbr (setBlk HA (ν p.1) (.cells c' l.length none)) := by
     refine zh4 ?_
     rw [h2, zac, zpi ha hp, zac]; simp only [zab.asPtr, zac]; rw [za3 he h1, zac, g1, g3]; rfl
    rw [e1]; exact this
   ·exact h5.elim
  ·simp only [zbq] at h
   obtain ⟨av, h1, u, h2, h⟩ := h
   refine zll ho z41 h hKd fun p hp => ?_
   refine zh4 (v := p.1) (H' := p.2) ?_
   rw [za3 he h1]; unfold zb3 at hp
   cases hx : C.tys.get ty with
   | none => rw [hx] at hp; cases hp
   | some y =>
    rw [hx] at hp; simp only [zac] at hp ⊢
    rw [za3 he h2]; exact hp
 case convert s d x =>
  rw [zar] at h; split at h
  ·rename_i hd
   rw [zbq] at h; obtain ⟨u, h1, h⟩ := h
   show Res C.base X0 Q (zj0 _ (zfy s d x C eA HA) HA kd)
   have hn : zk8 s d x C eA HA = none := by
    rw [z8m (za3 he h1)]
    cases hq : zl6 C s d HA u with
    | none => rfl
    | some q =>
     exfalso
     unfold zl6 at hq; simp only [zad] at hq; obtain ⟨sy, g1, dy, g2, g3⟩ := hq
     have hd := zc0.1 hd
     unfold zlf at hd; rw [g2] at hd; have hd : dy.desc.tag = 4 := hd
     unfold znx at g3; have n1 : dy.desc.asInt = none := by cases hz : dy.desc <;> rw [hz] at hd <;> first | rfl | (cases hd; done)
     have n2 : dy.desc.isString = false := by unfold zct.isString; rw [hd]; rfl
     rw [n1, n2] at g3
     cases g3
   unfold zfy; rw [hn]; simp only []; refine zll ho zxy h hK fun p hp => ?_
   refine zh4 (v := p.1) (H' := p.2) ?_
   rw [za3 he h1]; exact hp
  ·exact light _ (by simpa only [tL] using h)
 case insert ty m key x =>
  simp only [zbq] at h; obtain ⟨mv, h1, kv, h2, u, h3, h⟩ := h
  show Res C.base X0 Q (zj0 _ (znq ty m key x C eA HA) HA kd)
  refine zll ho zr3 h hKd fun p hp => ?_
  refine zh4 (v := p.1) (H' := p.2) ?_
  rw [za3 he h1, za3 he h2, za3 he h3]; exact hp
 case mapUpdate ty m key x =>
  simp only [zbq] at h; obtain ⟨mv, h1, kv, h2, u, h3, h⟩ := h
  show Res C.base X0 Q (zj0 _ (znq ty m key x C eA HA) HA kd)
  refine zll ho zr3 h hKd fun p hp => ?_
  refine zh4 (v := p.1) (H' := p.2) ?_
  rw [za3 he h1, za3 he h2, za3 he h3]; exact hp
 case call c =>
  show Res C.base X0 Q (zj0 _ ((zns c c.callee).f C eA HA) HA kd)
  split at h
  ·rename_i f hc
   rw [hc]; show Res C.base X0 Q (zj0 _ (zqu f c.args C eA HA) HA kd)
   have fin : ∀ {fv : zab} {as : List zab}, ev f e = some fv -> evs c.args.toList e = some as -> wpT C.base W J (.callv fv as k.K) t Q -> Res C.base X0 Q (zj0 (fnV C A) (zqu f c.args C eA HA) HA kd) := by
    intro fv as h1 h2 h; have h : zed (zn1 fv as) fun p => W p.1 p.2 t fun v t' => wpT C.base W J (k.K v) t' Q := h
    rw [zgs] at h; obtain ⟨⟨g, as'⟩, h3, h4⟩ := h
    unfold zn1 at h3; rw [zad] at h3; obtain ⟨p, h5, h6⟩ := h3
    have e1 : zqu f c.args C eA HA = zq4 C HA as' g (C.prims.get g) := by
     unfold zqu zfc; rw [za3 he h1, zac, h5, zac, zum he h2, zac, zac]
     cases hp : p.1 with
     | func g' => rw [hp] at h6; cases h6; rfl
     | yld l => rw [hp] at h6; cases h6
    rw [e1]; exact zzil hW ho h4 hK
   unfold zzee at h; split at h
   ·rename_i g
    rw [zbq] at h; obtain ⟨as, h1, h⟩ := h
    refine fin (fv := .func (.func g) [] []) rfl h1 ?_
    show zed (zn1 (.func (.func g) [] []) as) _
    have e2 : zn1 (.func (.func g) [] []) as = some (g, as) := by
     show some (g, ziu (ziu [] as) []) = _
     rw [zcl, zcl]; simp
    rw [e2]; exact h
   ·simp only [zbq] at h
    obtain ⟨fv, h1, as, h2, h⟩ := h
    exact fin h1 h2 h
  ·rename_i b hb
   rw [hb]; have lt : wpT C.base W J (zmc C c e k b) t Q -> Res C.base X0 Q (zj0 (fnV C A) ((zns c (.builtin b)).f C eA HA) HA kd) := by
    intro h; have := light (.call c) (by show wpT C.base W J (match c.callee with | .builtin b => zmc C c e k b | _ => .fail) t Q; rw [hb]; exact h)
    have e1 : (aop (.call c)).f C eA HA = (zns c c.callee).f C eA HA := rfl
    rw [e1, hb] at this; exact this
   unfold zvi at h; split at h
   ·simp only [zbq, two'] at h
    obtain ⟨ty, h1, u, h2, p, h3, h⟩ := h
    show Res C.base X0 Q (zj0 _ (znt c C eA HA) HA kd)
    refine zll ho z2n h hK fun q hq => ?_
    refine zh4 (v := q.1) (H' := q.2) ?_
    rw [h1, zac]; unfold zbn at hq; simp only [zad, zae] at hq ⊢
    obtain ⟨y, g1, z, g2, g3, g4⟩ := hq
    exact ⟨y, g1, u, h2, z, g2, g3, p, ztm he h3, g4⟩
   ·exact lt h
  ·cases h
end
end Go.Am
namespace Go.Am
open Go Go.RowKit
structure zdn (base : Nat) (X0 : Xt) (kf : Nat) (ν : Nat -> Nat) (X : Xt) (st : TSt) (tm : Tm) (HA : zai) (t : Tr zal) : Prop where
 ov : Ov base t X HA
 le : XLe X0 X
 k : st.tm.k = kf
 kA : tm.k = kf
 tms : ∀ i v, st.tm.get i = some v -> tm.get i = some v
 ads : ∀ i p, zf7 i st.ad = some p -> tm.get i = some (.ptr (ν p.1) p.2)
 lo : zzas base X0 X ν st.lo
 inj : ∀ d d' l l', st.lo.get d = some l -> st.lo.get d' = some l' -> ν d = ν d' -> d = d'
theorem ze5 {i : Nat} {a : Nat × Nat × Nat} {l : List (Nat × Nat × Nat)} : zf7 i (a :: l) = if i = a.1 then some a.2 else zf7 i l := by
 show Bool.rec (motive := fun _ => Option (Nat × Nat)) (zf7 i l) (some a.2) (Nat.beq i a.1) = _
 rw [zm1]; simp only [zc0]
theorem zzal {i : Nat} {p : Nat × Nat} : ∀ {l : List (Nat × Nat × Nat)}, zf7 i l = some p -> (i, p.1, p.2) ∈ l := by
 intro l; induction l with
 | nil => intro h; cases h
 | cons a l ih =>
  intro h; rw [ze5] at h; split at h
  ·rename_i e; cases h; rw [e]; exact yaz
  ·exact yas _ (ih h)
theorem z64 {n : Nat} {tm : Tm} {dst : Option Nat} {v : zab} : (putA n tm dst v).k = tm.k := by
 unfold putA putB
 cases dst with
 | none => rfl
 | some d =>
  simp only [zzb3, zar]; split
  ·unfold Tm.set; rw [zm1]; split <;> rfl
  ·rfl
theorem Tm.set_k {tm : Tm} {i : Nat} {v : zab} : (tm.set i v).k = tm.k := by unfold Tm.set; rw [zm1]; split <;> rfl
section
variable {W J : zhu} {t : Tr zal} {X X0 : Xt} {HA : zai} {C : Ctx} {A : Tr zdd} {ν : Nat -> Nat} {Q : zaw} {kf n : Nat} {st : TSt} {tm : Tm}
theorem zdn.put (h : zdn C.base X0 kf ν X st tm HA t) {dst : Option Nat} {v : zab} {lt : Bool} {κ : KT} (hw : wpT C.base W J (z2w n dst v lt st κ) t Q) :
  ∃ st', zdn C.base X0 kf ν X st' (putA n tm dst v) HA t /\ wpT C.base W J (κ st') t Q := by
 unfold z2w at hw
 cases dst with
 | none => exact ⟨st, h, hw⟩
 | some d =>
  simp only [zar] at hw; split at hw
  ·rename_i hd
   rw [zhv] at hw; obtain ⟨h1, h2⟩ := hw
   refine ⟨_, ?_, h2⟩
   refine ⟨h.ov, h.le, (by show (st.tm.set d v).k = kf; rw [Tm.set_k]; exact h.k), by rw [z64]; exact h.kA, ?_, ?_, h.lo, h.inj⟩
   ·intro i u hi
    have hi2 : (st.tm.set d v).get i = some u := hi
    rw [Tm.get_set] at hi2; rw [zb1]; split at hi2
    ·rename_i e; rw [if_pos ⟨by rw [e], by rw [e]; exact zdl.1 hd⟩]; exact hi2
    ·rename_i e
     rw [if_neg (fun hh => e (by injection hh.1 with e1; exact e1.symm))]
     exact h.tms i u hi2
   ·intro i p hi
    rw [zb1, if_neg]
    ·exact h.ads i p hi
    ·rintro ⟨e, _⟩
     injection e with e
     subst e; rw [hi] at h1
     cases h1
  ·rename_i hd
   refine ⟨st, ?_, hw⟩
   have : putA n tm (some d) v = tm := by
    unfold putA putB; simp only [zzb3, zar]; rw [if_neg hd]
   rw [this]; exact h
theorem zdn.putA (h : zdn C.base X0 kf ν X st tm HA t) {dst : Option Nat} {d off : Nat} {κ : KT} (hw : wpT C.base W J (zzgb n dst d off st κ) t Q) :
  ∃ st', zdn C.base X0 kf ν X st' (Am.putA n tm dst (.ptr (ν d) off)) HA t /\ wpT C.base W J (κ st') t Q := by
 unfold zzgb at hw; rw [zbq] at hw; obtain ⟨i, h1, hw⟩ := hw
 subst h1; simp only [zhv] at hw; obtain ⟨h2, h3, h4⟩ := hw
 refine ⟨_, ?_, h4⟩
 refine ⟨h.ov, h.le, h.k, by rw [z64]; exact h.kA, ?_, ?_, h.lo, h.inj⟩
 ·intro j u hj
  rw [zb1, if_neg]
  ·exact h.tms j u hj
  ·rintro ⟨e, _⟩
   injection e with e
   subst e; have hj : st.tm.get i = some u := hj
   rw [hj] at h3
   cases h3
 ·intro j p hj
  have hj : zf7 j ((i, d, off) :: st.ad) = some p := hj
  rw [ze5] at hj; rw [zb1]; split at hj
  ·rename_i e; cases hj; rw [if_pos ⟨by rw [e], by rw [e]; exact zdl.1 h2⟩]
  ·rename_i e
   rw [if_neg (fun hh => e (by injection hh.1 with e1; exact e1.symm))]
   exact h.ads j p hj
theorem zdn.new (h : zdn C.base X0 kf ν X st tm HA t) {d : Nat} {l : List zab} {κ : KT} (hw : wpT C.base W J (tNew n d l st κ) t Q) :
  ∃ st' ν' X', zdn C.base X0 kf ν' X' st' (Am.putA n tm (some d) (.ptr HA.next 0)) (za7 HA l none) t /\ wpT C.base W J (κ st') t Q := by
 unfold tNew at hw; simp only [zhv] at hw; obtain ⟨h1, h2, h3, h4⟩ := hw
 have hx := h.ov.nextX
 refine ⟨_, fun c => if c = d then HA.next else ν c, fun c => if c = HA.next then some (.cells (Tr.ofList l) (zbw l) none) else X c, ?_, h4⟩
 refine ⟨h.ov.newX _, ?_, h.k, by rw [z64]; exact h.kA, ?_, ?_, ?_, ?_⟩
 ·intro b y hb
  have : X b = some y := h.le b y hb
  show (if b = HA.next then _ else X b) = some y
  rw [if_neg, this]; intro e; rw [e, hx] at this; cases this
 ·intro j u hj
  rw [zb1, if_neg]
  ·exact h.tms j u hj
  ·rintro ⟨e, _⟩
   injection e with e
   subst e; have hj : st.tm.get d = some u := hj
   rw [hj] at h2
   cases h2
 ·intro j p hj
  have hj : zf7 j ((d, d, 0) :: st.ad) = some p := hj
  rw [ze5] at hj; rw [zb1]; split at hj
  ·rename_i e
   cases hj; rw [if_pos ⟨by rw [e], by rw [e]; exact zdl.1 h1⟩]
   show some (zab.ptr HA.next 0) = some (zab.ptr (if d = d then HA.next else ν d) 0)
   rw [if_pos rfl]
  ·rename_i e
   rw [if_neg (fun hh => e (by injection hh.1 with e1; exact e1.symm))]
   have hm := zzal hj
   unfold zzex at h3; rw [zcb, ybc] at h3; have := h3 _ hm
   simp only [zar] at this; have hne : p.1 ≠ d := by
    intro e2; rw [if_pos (zc0.2 e2)] at this
    exact e (zc0.1 this)
   show Tm.get tm j = some (zab.ptr (if p.1 = d then HA.next else ν p.1) p.2)
   rw [if_neg hne]; exact h.ads j p hj
 ·intro c m hc
  have hc : (st.lo.set d l).get c = some m := hc
  rw [Tr.get_set] at hc; show X0 (if c = d then HA.next else ν c) = none /\ C.base <= (if c = d then HA.next else ν c) /\ ∃ c', (if (if c = d then HA.next else ν c) = HA.next then some (zal.cells (Tr.ofList l) (zbw l) none) else X (if c = d then HA.next else ν c)) = some (.cells c' m.length none) /\ ∀ j a, m[j]? = some a -> c'.get j = some a
  split at hc
  ·rename_i e
   cases hc; simp only [e, if_true]; refine ⟨?_, h.ov.base, Tr.ofList l, by rw [zbb], fun j a hj => by rw [Tr.get_ofList]; exact hj⟩
   cases hq : X0 HA.next with
   | none => rfl
   | some z => have := h.le _ _ hq; rw [hx] at this; cases this
  ·rename_i e
   simp only [if_neg e]; obtain ⟨g1, g2, c', g3, g4⟩ := h.lo c m hc
   refine ⟨g1, g2, c', ?_, g4⟩
   rw [if_neg, g3]; intro e2; rw [e2, hx] at g3; cases g3
 ·intro c c' m m' hc hc' he
  have hc : (st.lo.set d l).get c = some m := hc
  have hc' : (st.lo.set d l).get c' = some m' := hc'
  have he : (if c = d then HA.next else ν c) = (if c' = d then HA.next else ν c') := he
  rw [Tr.get_set] at hc hc'
  split at hc <;> split at hc'
  ·rename_i e1 e2; rw [e1, e2]
  ·rename_i e1 e2
   rw [if_pos e1, if_neg e2] at he; obtain ⟨_, _, _, g3, _⟩ := h.lo c' m' hc'
   rw [<- he, hx] at g3; cases g3
  ·rename_i e1 e2
   rw [if_neg e1, if_pos e2] at he; obtain ⟨_, _, _, g3, _⟩ := h.lo c m hc
   rw [he, hx] at g3; cases g3
  ·rename_i e1 e2
   rw [if_neg e1, if_neg e2] at he; exact h.inj c c' m m' hc hc' he
theorem zdn.setLo (h : zdn C.base X0 kf ν X st tm HA t) {d : Nat} {l l' : List zab} {c' : Tr zab} (h1 : st.lo.get d = some l) (h2 : l'.length = l.length) (h3 : ∀ j a, l'[j]? = some a -> c'.get j = some a) :
  ∃ X', zdn C.base X0 kf ν X' ⟨st.tm, st.ad, st.lo.set d l', st.lit⟩ tm (setBlk HA (ν d) (.cells c' l.length none)) t := by
 obtain ⟨g1, g2, c, g3, g4⟩ := h.lo d l h1
 refine ⟨_, h.ov.setX g3 _, ?_, h.k, h.kA, h.tms, h.ads, ?_, ?_⟩
 ·intro b y hb
  show (if b = ν d then _ else X b) = some y
  rw [if_neg]
  ·exact h.le b y hb
  ·intro e; rw [e, g1] at hb; cases hb
 ·intro e m he
  have he : (st.lo.set d l').get e = some m := he
  rw [Tr.get_set] at he; split at he
  ·rename_i e1
   cases he; subst e1; exact ⟨g1, g2, c', by show (if ν e = ν e then _ else _) = _; rw [if_pos rfl, h2], h3⟩
  ·rename_i e1
   obtain ⟨k1, k2, k3, k4, k5⟩ := h.lo e m he
   refine ⟨k1, k2, k3, ?_, k5⟩
   show (if ν e = ν d then _ else X (ν e)) = _
   rw [if_neg, k4]; intro e2; exact e1 (h.inj e d m l he h1 e2)
 ·intro e e' m m' he he' hv
  have he : (st.lo.set d l').get e = some m := he
  have he' : (st.lo.set d l').get e' = some m' := he'
  rw [Tr.get_set] at he he'
  have x1 : ∃ q, st.lo.get e = some q := by
   split at he
   ·rename_i e1; rw [e1]; exact ⟨l, h1⟩
   ·exact ⟨m, he⟩
  have x2 : ∃ q, st.lo.get e' = some q := by
   split at he'
   ·rename_i e1; rw [e1]; exact ⟨l, h1⟩
   ·exact ⟨m', he'⟩
  exact h.inj e e' _ _ x1.choose_spec x2.choose_spec hv
theorem zdn.later (h : zdn C.base X0 kf ν X st tm HA t) {X' : Xt} {HA' : zai} {t' : Tr zal} (ho : Ov C.base t' X' HA') (hx : XLe X X') : zdn C.base X0 kf ν X' st tm HA' t' :=
 ⟨ho, h.le.trans hx, h.k, h.kA, h.tms, h.ads, fun d l hd => by
  obtain ⟨g1, g2, c, g3, g4⟩ := h.lo d l hd
  exact ⟨g1, g2, c, hx _ _ g3, g4⟩, h.inj⟩
theorem zpa {ty : Nat} {v : zab} (h : fitB C ty v = true) : zzc9 C ty v := by
 unfold fitB at h; unfold zzc9
 cases hy : C.tys.get ty with
 | none => trivial
 | some y =>
  rw [hy] at h; simp only at h ⊢
  unfold fitD
  cases hd : y.desc <;> rw [hd] at h <;> simp only at h ⊢
  case bool =>
   have := zc0.1 h
   cases v <;> simp only [zab.tag] at this <;> first
    | exact ⟨_, rfl⟩
    | (cases this; done)
  case int k =>
   cases v <;> simp only [zab.asIntK] at h <;> first
    | exact ⟨_, by rw [ze3.1 h]⟩
    | (cases h; done)
  case string =>
   have := zc0.1 h
   cases v <;> simp only [zab.tag] at this <;> first
    | exact ⟨_, rfl⟩
    | (cases this; done)
theorem zui {ty : Nat} {v : zab} (h : (!Nat.ble (zlf C ty) 2) = true) : zzc9 C ty v := by
 unfold zzc9; unfold zlf at h
 cases hy : C.tys.get ty with
 | none => trivial
 | some y =>
  rw [hy] at h; simp only at h ⊢
  unfold fitD
  cases hd : y.desc <;> rw [hd] at h <;> first
   | trivial
   | (simp only [zct.tag] at h; exact absurd h (by decide))
theorem zze : ∀ (zs l : List zab) (pre : List zab), zmv zs l = true -> znj zs (cellsOf (pre ++ l)) pre.length = l := by
 intro zs; induction zs with
 | nil => intro l pre h; cases l with
  | nil => rfl
  | cons a l => cases h
 | cons z zs ih =>
  intro l pre h
  cases l with
  | nil => cases h
  | cons a l =>
   unfold zmv at h; rw [yac] at h; show z7r z (cellsOf (pre ++ a :: l)) pre.length :: znj zs (cellsOf (pre ++ a :: l)) (pre.length + 1) = a :: l
   have e2 := ih l (pre ++ [a]) h.2
   rw [yba] at e2; simp only [List.cons_append, List.nil_append, yah, yao, yay] at e2; rw [e2]; congr 1
   have hg : (pre ++ a :: l)[pre.length]? = some a := by simp
   have h1 := h.1
   cases z <;> simp only [zj1] at h1 <;> simp only [z7r, cellsOf, zde, zix, zil, ze6, hg] <;> try (cases h1; done)
   case bool =>
    have := zc0.1 h1
    cases a <;> simp only [zab.tag] at this <;> first
     | rfl
     | (cases this; done)
   case int k _ =>
    cases a <;> simp only [zab.asIntK] at h1 <;> first
     | (rw [ze3.1 h1]; done)
     | (cases h1; done)
   case str =>
    have := zc0.1 h1
    cases a <;> simp only [zab.tag] at this <;> first
     | rfl
     | (cases this; done)
theorem z0j {ty : Nat} {v : zab} {K : zab -> T} (h : wpT C.base W J (z5n C ty v K) t Q) : zzc9 C ty v /\ wpT C.base W J (K v) t Q := by
 unfold z5n at h; unfold zzc9; have agg : ∀ zs, wpT C.base W J (bif Nat.ble (zbw zs) 40 then .asG zs v fun X => K (.agg (znj zs X 0)) else K v) t Q -> wpT C.base W J (K v) t Q := by
  intro zs h; rw [zar] at h; split at h
  ·have h : zed (zrc zs v) fun X => wpT C.base W J (K (.agg (znj zs X 0))) t Q := h
   rw [zgs] at h; obtain ⟨X, h1, h2⟩ := h
   unfold zrc at h1; simp only [zad, zae] at h1; obtain ⟨l, h3, h4, h5⟩ := h1
   cases h5; have := zze zs l [] h4
   simp only [List.nil_append, yay] at this; rw [this] at h2; rw [zi5.1 h3]; exact h2
  ·exact h
 cases hy : C.tys.get ty with
 | none => rw [hy] at h; exact ⟨trivial, h⟩
 | some y =>
  rw [hy] at h; simp only at h ⊢
  unfold fitD
  cases hd : y.desc <;> rw [hd] at h <;> simp only at h ⊢
  case bool =>
   have h : zed v.asBool fun n => wpT C.base W J (K (.bool n)) t Q := h
   rw [zgs] at h; obtain ⟨b, h1, h2⟩ := h
   rw [zef.1 h1]; exact ⟨⟨b, rfl⟩, h2⟩
  case int k =>
   have h : zed (zzcz k v) fun n => wpT C.base W J (K (.int k n)) t Q := h
   rw [zgs] at h; obtain ⟨b, h1, h2⟩ := h
   unfold zzcz at h1; simp only [zad, zae] at h1; obtain ⟨p, h3, h4, h5⟩ := h1
   cases h5; rw [zcd.1 h3, ze3.1 h4]; exact ⟨⟨_, rfl⟩, h2⟩
  case string =>
   have h : zed v.asStr fun n => wpT C.base W J (K (.str n)) t Q := h
   rw [zgs] at h; obtain ⟨b, h1, h2⟩ := h
   rw [zcv.1 h1]; exact ⟨⟨b, rfl⟩, h2⟩
  all_goals first
   | exact ⟨trivial, agg _ h⟩
   | exact ⟨trivial, h⟩
theorem zmb {g lt : Bool} {v : zab} {K : zab -> Bool -> T} (h : wpT C.base W J (zr6 g lt v K) t Q) : ∃ lt', wpT C.base W J (K v lt') t Q := by
 unfold zr6 at h
 cases g with
 | false => exact ⟨lt, h⟩
 | true =>
  cases lt with
  | true => exact ⟨true, h⟩
  | false =>
   simp only [cond_true, cond_false] at h; rw [zbq] at h; obtain ⟨b, h1, h2⟩ := h
   rw [zef.1 h1]; have h2 : if b = true then wpT C.base W J (K (.bool true) true) t Q else wpT C.base W J (K (.bool false) true) t Q := h2
   cases b with
   | true => exact ⟨true, h2⟩
   | false => exact ⟨true, h2⟩
theorem ztg (h : zdn C.base X0 kf ν X st tm HA t) {g : Option (Nat × Bool)} {all : Array Oper} {w : Bool} (hw : zbd g all st.tm = some w) : zbd g all tm = some w := by
 unfold zbd z4w at hw ⊢
 cases g with
 | none => exact hw
 | some jw =>
  simp only [zu3] at hw ⊢
  rw [zad] at hw ⊢
  obtain ⟨d, h1, hw⟩ := hw
  refine ⟨d, h1, ?_⟩
  rw [zad] at hw ⊢
  obtain ⟨v, h2, hw⟩ := hw
  exact ⟨v, h.tms _ _ h2, hw⟩
def SK (C : Ctx) (W J : zhu) (X0 : Xt) (kf : Nat) (Q : zaw) (κ : KT) (m : Tm -> zai -> zb8) : Prop := ∀ st tm HA t X ν, zdn C.base X0 kf ν X st tm HA t -> wpT C.base W J (κ st) t Q -> Res C.base X0 Q (m tm HA)
theorem Res.norm {ty : Nat} {v : zab} {K : zab -> zb8} (hf : zzc9 C ty v) (h : Res C.base X0 Q (K v)) : Res C.base X0 Q (zis C ty v K) := by
 obtain ⟨u, t', HA', X', h1, h2⟩ := h
 exact ⟨u, t', HA', X', zcn.2 ⟨hf, h1⟩, h2⟩
theorem Res.ob {α : Type} {x : Option α} {a : α} {K : α -> zb8} (hx : x = some a) (h : Res C.base X0 Q (K a)) : Res C.base X0 Q (Am.ob x K) := by subst hx; exact h
theorem z6j (hW : zm7 C A W) {e eA : Env} {ae : zxr} (he : zo0 e eA) (ha : zn5 ν ae eA) (hst : zdn C.base X0 kf ν X st tm HA t) {la : List Nat} {all : Array Oper} {o : Oper} {κ : KT} {m : Tm -> zai -> zb8}
  (hκ : ∀ st' tm' HA' t' X' ν', (la = [] -> ν' = ν) -> zdn C.base X0 kf ν' X' st' tm' HA' t' -> (∃ v, tm' = putA n tm o.dst v) -> wpT C.base W J (κ st') t' Q -> Res C.base X0 Q (m tm' HA'))
  (h : wpT C.base W J (tH C la o.dst o.op e ae st.lo (kop C all n o e st κ) (klo C n o st κ)) t Q) :
  Res C.base X0 Q (zj0 (fnV C A) ((aop o.op).f C eA HA) HA fun v H' => zis C o.type v fun v => m (putA n tm o.dst v) H') := by
 refine tH_ok hW he ha hst.ov hst.lo h ?_ ?_ ?_ ?_ ?_
 ·intro v t' HA' X' ho hx hk
  have hk : wpT C.base W J (z5n C o.type v fun v => zr6 (zua all.toList o.dst all.toList) (zzcl o.op e st.lit) v fun v lt => z2w n o.dst v lt st κ) t' Q := hk
  obtain ⟨h1, h2⟩ := z0j hk
  obtain ⟨lt', h3⟩ := zmb h2
  obtain ⟨st', h4, h5⟩ := (hst.later ho hx).put h3
  exact Res.norm h1 (hκ _ _ _ _ _ _ (fun _ => rfl) h4 ⟨v, rfl⟩ h5)
 ·intro v t' HA' X' ho hx hk
  obtain ⟨h1, h2⟩ := zhv.1 hk
  obtain ⟨lt', h3⟩ := zmb h2
  obtain ⟨st', h4, h5⟩ := (hst.later ho hx).put h3
  exact Res.norm (zpa h1) (hκ _ _ _ _ _ _ (fun _ => rfl) h4 ⟨v, rfl⟩ h5)
 ·intro d off hk
  obtain ⟨h1, h2⟩ := zhv.1 hk
  obtain ⟨st', h4, h5⟩ := hst.putA h2
  exact Res.norm (zui h1) (hκ _ _ _ _ _ _ (fun _ => rfl) h4 ⟨_, rfl⟩ h5)
 ·intro d l hd hk
  obtain ⟨h1, h2⟩ := zhv.1 hk
  obtain ⟨st', ν', X', h4, h5⟩ := hst.new h2
  have e := z8b hd
  rw [e]; refine Res.norm (zui h1) (hκ _ _ _ _ _ _ (fun hl => ?_) h4 ⟨_, by rw [e]⟩ h5)
  rw [hl, e] at hd
  cases hd
 ·intro d l l' c' h1 h2 h3 hk
  obtain ⟨h4, h5⟩ := zhv.1 hk
  obtain ⟨X', h6⟩ := hst.setLo h1 h2 h3
  obtain ⟨st', h7, h8⟩ := h6.put h5
  exact Res.norm (zpa h4) (hκ _ _ _ _ _ _ (fun _ => rfl) h7 ⟨_, rfl⟩ h8)
theorem zyv (h : zdn C.base X0 kf ν X st tm HA t) : zo0 (.now st.tm) (.now tm) /\ zn5 ν (.now st.ad) (.now tm) := ⟨h.tms, h.ads⟩
theorem zzga (hW : zm7 C A W) {la : List Nat} {all : Array Oper} {κ : KT} {m : Tm -> zai -> zb8} (hκ : SK C W J X0 kf Q κ m) : ∀ (l : List Oper), SK C W J X0 kf Q (tops C la all n κ l) (zxo C (fnV C A) all n m l) := by
 intro l; induction l with
 | nil => exact hκ
 | cons o l ih =>
  intro st tm HA t X ν hst h; have h : wpT C.base W J (obT (zbd o.guard all st.tm) fun w => Bool.rec (motive := fun _ => T) (z2w n o.dst zbr false st (tops C la all n κ l))
   (tH C la o.dst o.op (.now st.tm) (.now st.ad) st.lo (kop C all n o (.now st.tm) st (tops C la all n κ l)) (klo C n o st (tops C la all n κ l))) w) t Q := h
  rw [zbq] at h; obtain ⟨w, h1, h2⟩ := h
  rw [ziq]; refine Res.ob (ztg hst h1) ?_
  cases w with
  | false =>
   rw [if_neg (by simp)]
   obtain ⟨st', h3, h4⟩ := hst.put h2
   exact ih _ _ _ _ _ _ h3 h4
  | true =>
   rw [if_pos rfl]; exact z6j hW (zyv hst).1 (zyv hst).2 hst (fun st' tm' HA' t' X' ν' _ hs _ hw => ih _ _ _ _ _ _ hs hw) h2
end
end Go.Am
namespace Go.Am
open Go Go.RowKit
structure zxm (ν : Nat -> Nat) (old : TSt) (oldA : Tm) : Prop where
 tms : ∀ i v, old.tm.get i = some v -> oldA.get i = some v
 ads : ∀ i p, zf7 i old.ad = some p -> oldA.get i = some (.ptr (ν p.1) p.2)
theorem zdn.old {base : Nat} {X0 X : Xt} {kf : Nat} {ν : Nat -> Nat} {st : TSt} {tm : Tm} {HA : zai} {t : Tr zal} (h : zdn base X0 kf ν X st tm HA t) : zxm ν st tm := ⟨h.tms, h.ads⟩
theorem Tm.get_cut {tm : Tm} {i : Nat} : tm.cut.get i = if i < tm.k then tm.get i else none := by
 unfold Tm.cut Tm.get; simp only [zm1]; by_cases h : Nat.blt i tm.k = true
 ·rw [if_pos h, if_pos h, if_pos (zdl.1 h)]
 ·rw [if_neg h, if_neg (fun e => h (zdl.2 e))]; rfl
theorem zzam {k i : Nat} : ∀ {l : List (Nat × Nat × Nat)}, zf7 i (Env.adCut k l) = if i < k then zf7 i l else none := by
 intro l; induction l with
 | nil => show none = _; split <;> rfl
 | cons a l ih =>
  unfold Env.adCut at ih ⊢
  rw [List.filter_cons]; split
  ·rename_i ha
   have ha := zdl.1 ha
   rw [ze5, ih, ze5]; split
   ·rename_i e; rw [if_pos (by omega)]
   ·rfl
  ·rename_i ha
   rw [ih, ze5]; split
   ·rename_i hi
    rw [if_neg]; intro e; exact ha (zdl.2 (by omega))
   ·rfl
section
variable {W J : zhu} {t : Tr zal} {X X0 : Xt} {HA : zai} {C : Ctx} {A : Tr zdd} {ν : Nat -> Nat} {Q : zaw} {kf n : Nat} {st old : TSt} {tm oldA : Tm} {all : Array Oper} {olds : List (Nat × List Nat)}
theorem zdn.cut (h : zdn C.base X0 kf ν X st tm HA t) : zdn C.base X0 kf ν X st.cut tm.cut HA t := by
 refine ⟨h.ov, h.le, h.k, h.kA, ?_, ?_, h.lo, h.inj⟩
 ·intro i v hi
  have hi : st.tm.cut.get i = some v := hi
  rw [Tm.get_cut] at hi ⊢
  split at hi
  ·rename_i e; rw [if_pos (by rw [h.kA, <- h.k]; exact e)]; exact h.tms i v hi
  ·cases hi
 ·intro i p hi
  have hi : zf7 i (Env.adCut st.tm.k st.ad) = some p := hi
  rw [zzam] at hi; rw [Tm.get_cut]; split at hi
  ·rename_i e; rw [if_pos (by rw [h.kA, <- h.k]; exact e)]; exact h.ads i p hi
  ·cases hi
theorem znk (h : zdn C.base X0 kf ν X st tm HA t) (ho : zxm ν old oldA) {os : List Nat} {op : Op} : zo0 (z4l st old os op) (.mixed tm oldA os (zb4 op)) /\ zn5 ν (zzg8 st old os op) (.mixed tm oldA os (zb4 op)) := by
 constructor
 ·intro i v hi
  have hi : (bif zcx i (zb4 op) then Tm.get (bif zcx i os then old.tm else st.tm) i else none) = some v := hi
  show (bif zcx i (zb4 op) then Tm.get (bif zcx i os then oldA else tm) i else none) = some v
  cases hm : zcx i (zb4 op) with
  | false => rw [hm] at hi; cases hi
  | true =>
   rw [hm] at hi; simp only [cond_true] at hi ⊢
   cases hq : zcx i os with
   | true => rw [hq] at hi; exact ho.tms i v hi
   | false => rw [hq] at hi; exact h.tms i v hi
 ·intro i p hi
  have hi : (bif zcx i (zb4 op) then zf7 i (bif zcx i os then old.ad else st.ad) else none) = some p := hi
  show (bif zcx i (zb4 op) then Tm.get (bif zcx i os then oldA else tm) i else none) = _
  cases hm : zcx i (zb4 op) with
  | false => rw [hm] at hi; cases hi
  | true =>
   rw [hm] at hi; simp only [cond_true] at hi ⊢
   cases hq : zcx i os with
   | true => rw [hq] at hi; exact ho.ads i p hi
   | false => rw [hq] at hi; exact h.ads i p hi
theorem zr5 (ho : zxm ν old oldA) {κ : KT} {kd : Tm -> zb8} (hκ : ∀ st' tm', zdn C.base X0 kf ν X st' tm' HA t -> wpT C.base W J (κ st') t Q -> Res C.base X0 Q (kd tm')) :
  ∀ (l : List Nat) (st : TSt) (tm : Tm), zdn C.base X0 kf ν X st tm HA t -> wpT C.base W J (zi7 C all n old olds κ l st) t Q -> Res C.base X0 Q (zci C HA all n oldA olds kd l tm) := by
 intro l; induction l with
 | nil => exact hκ
 | cons i l ih =>
  intro st tm hst h; have h : wpT C.base W J (obT (ze7 all.toList i) fun o => obT (zbd o.guard all st.tm) fun w => Bool.rec (motive := fun _ => T) (z2w n o.dst zbr false st (zi7 C all n old olds κ l))
   (tL C o.op (z4l st old (zc1 i olds) o.op) (zzg8 st old (zc1 i olds) o.op) st.lo (kop C all n o (z4l st old (zc1 i olds) o.op) st (zi7 C all n old olds κ l))) w) t Q := h
  rw [zbq] at h; obtain ⟨o, h0, h⟩ := h
  rw [zbq] at h; obtain ⟨w, h1, h2⟩ := h
  rw [zh5]; refine Res.ob h0 (Res.ob (ztg hst h1) ?_)
  cases w with
  | false =>
   rw [if_neg (by simp)]
   obtain ⟨st', h3, h4⟩ := hst.put h2
   exact ih _ _ h3 h4
  | true =>
   rw [if_pos rfl]; refine Exists.elim (zzgc (R := fun v => Res C.base X0 Q (zis C o.type v fun v => zci C HA all n oldA olds kd l (putA n tm o.dst v))) (znk hst ho).1 (znk hst ho).2 hst.ov hst.lo h2 ?_ ?_ ?_) (fun v h => Res.ob h.1 h.2)
   ·intro v hk
    have hk : wpT C.base W J (z5n C o.type v fun v => zr6 (zua all.toList o.dst all.toList) (zzcl o.op (z4l st old (zc1 i olds) o.op) st.lit) v fun v lt => z2w n o.dst v lt st (zi7 C all n old olds κ l)) t Q := hk
    obtain ⟨g1, g2⟩ := z0j hk
    obtain ⟨lt', g3⟩ := zmb g2
    obtain ⟨st', g4, g5⟩ := hst.put g3
    exact Res.norm g1 (ih _ _ g4 g5)
   ·intro v hk
    obtain ⟨g1, g2⟩ := zhv.1 hk
    obtain ⟨lt', g3⟩ := zmb g2
    obtain ⟨st', g4, g5⟩ := hst.put g3
    exact Res.norm (zpa g1) (ih _ _ g4 g5)
   ·intro d off hk
    obtain ⟨g1, g2⟩ := zhv.1 hk
    obtain ⟨st', g4, g5⟩ := hst.putA g2
    exact Res.norm (zui g1) (ih _ _ g4 g5)
theorem z5m (ho : zxm ν old oldA) (hst : zdn C.base X0 kf ν X st tm HA t) {k : T} {kd : zb8} (hk : wpT C.base W J k t Q -> Res C.base X0 Q kd) :
  ∀ (l : List Nat), wpT C.base W J (zma C all old olds st k l) t Q -> Res C.base X0 Q (zfo C HA all oldA olds tm kd l) := by
 intro l; induction l with
 | nil => exact hk
 | cons i l ih =>
  intro h; have h : wpT C.base W J (obT (ze7 all.toList i) fun o => obT o.dst fun d => obT (zbd o.guard all st.tm) fun w => Bool.rec (motive := fun _ => T) (zma C all old olds st k l)
   (obT (st.tm.get d) fun u => gdT (fitB C o.type u) (tL C o.op (z4l st old (zc1 i olds) o.op) (zzg8 st old (zc1 i olds) o.op) st.lo ⟨fun v => .ite (same 10 v u) (zma C all old olds st k l) .fail, fun v => .ite (same 10 v u) (zma C all old olds st k l) .fail, fun _ _ => .fail⟩)) w) t Q := h
  rw [zbq] at h; obtain ⟨o, h0, h⟩ := h
  rw [zbq] at h; obtain ⟨d, h1, h⟩ := h
  rw [zbq] at h; obtain ⟨w, h2, h⟩ := h
  rw [zl3]; refine Res.ob h0 (Res.ob h1 (Res.ob (ztg hst h2) ?_))
  cases w with
  | false => rw [if_neg (by simp)]; exact ih h
  | true =>
   rw [if_pos rfl]; simp only [zbq, zhv] at h; obtain ⟨u, h3, h4, h5⟩ := h
   have fin : ∀ v, wpT C.base W J (.ite (same 10 v u) (zma C all old olds st k l) .fail) t Q -> Res C.base X0 Q (zis C o.type v fun v => ob (tm.get d) fun u => zao (same 10 v u) (zfo C HA all oldA olds tm kd l)) := by
    intro v hv; have hv : if same 10 v u = true then wpT C.base W J (zma C all old olds st k l) t Q else False := hv
    split at hv
    ·rename_i hs
     refine Res.norm ?_ (Res.ob (hst.tms _ _ h3) ?_)
     ·rw [zyi _ _ _ hs]; exact zpa h4
     ·rw [hs]; exact ih hv
    ·exact hv.elim
   obtain ⟨v, h6, h7⟩ := zzgc (R := fun v => Res C.base X0 Q (zis C o.type v fun v => ob (tm.get d) fun u => zao (same 10 v u) (zfo C HA all oldA olds tm kd l))) (znk hst ho).1 (znk hst ho).2 hst.ov hst.lo h5 fin fin (fun _ _ h => h.elim)
   exact Res.ob h6 h7
theorem z2r (hW : zm7 C A W) (ho : zxm ν old oldA) {κ : KT} {m : Tm -> zai -> zb8} (hκ : SK C W J X0 kf Q κ m) :
  ∀ (l : List zd4) (st : TSt) (tm : Tm) (HA : zai) (t : Tr zal) (X : Xt), zdn C.base X0 kf ν X st tm HA t -> wpT C.base W J (zpp C all n old olds κ l st) t Q -> Res C.base X0 Q (zcq C (fnV C A) all n oldA olds m l tm HA) := by
 intro l; induction l with
 | nil => intro st tm HA t X hst h; exact hκ _ _ _ _ _ _ hst h
 | cons s l ih =>
  intro st tm HA t X hst h; have h : wpT C.base W J (obT (ze7 all.toList s.heavy) fun o => obT (zbd o.guard all st.tm) fun w =>
   (fun cont : KT => Bool.rec (motive := fun _ => T) (z2w n o.dst zbr false st cont)
    (tH C [] o.dst o.op (z4l st old (zc1 s.heavy olds) o.op) (zzg8 st old (zc1 s.heavy olds) o.op) st.lo (kop C all n o (z4l st old (zc1 s.heavy olds) o.op) st cont) (klo C n o st cont)) w)
   (fun st' => zma C all old olds st' (zi7 C all n old olds (zpp C all n old olds κ l) s.lights st') s.again)) t Q := h
  rw [zbq] at h; obtain ⟨o, h0, h⟩ := h
  rw [zbq] at h; obtain ⟨w, h1, h2⟩ := h
  rw [ze1]; refine Res.ob h0 (Res.ob (ztg hst h1) ?_)
  have fin : ∀ st' tm' HA' t' X' ν', ν' = ν -> zdn C.base X0 kf ν' X' st' tm' HA' t' -> wpT C.base W J (zma C all old olds st' (zi7 C all n old olds (zpp C all n old olds κ l) s.lights st') s.again) t' Q →
    Res C.base X0 Q (zfo C HA' all oldA olds tm' (zci C HA' all n oldA olds (fun tm => zcq C (fnV C A) all n oldA olds m l tm HA') s.lights tm') s.again) := by
   intro st' tm' HA' t' X' ν' e hs hw; subst e; exact z5m ho hs (fun hl => zr5 ho (fun st2 tm2 hs2 hw2 => ih _ _ _ _ _ hs2 hw2) _ _ _ hs hl) _ hw
  cases w with
  | false =>
   simp only [yar, if_false]; obtain ⟨st', h3, h4⟩ := hst.put h2
   exact fin _ _ _ _ _ _ rfl h3 h4
  | true =>
   simp only [if_true]; exact z6j (m := fun tm' HA' => zfo C HA' all oldA olds tm' (zci C HA' all n oldA olds (fun tm => zcq C (fnV C A) all n oldA olds m l tm HA') s.lights tm') s.again)
    hW (znk hst ho).1 (znk hst ho).2 hst (fun st' tm' HA' t' X' ν' hn hs _ hw => fin _ _ _ _ _ _ (hn rfl) hs hw) h2
theorem z2t (hW : zm7 C A W) {la : List Nat} {fn id : Nat} {d : Bool} {κ : KT} {m : Tm -> zai -> zb8} (hκ : SK C W J X0 kf Q κ m) : SK C W J X0 kf Q (z5f C la fn n κ id all d) (zne C (fnV C A) fn n m id all d) := by
 intro st tm HA t X ν hst h
 cases d with
 | false => exact zzga hW hκ _ _ _ _ _ _ _ hst.cut h
 | true =>
  have h : wpT C.base W J (obT (ob (C.plans.get fn) fun t => t.get id) fun p => gdT (zjt all p) (zi7 C all n st.cut p.olds (zpp C all n st.cut p.olds κ p.stages) p.first st.cut)) t Q := h
  simp only [zbq, zhv] at h; obtain ⟨p, h1, h2, h3⟩ := h
  show Res C.base X0 Q (ob (ob (C.plans.get fn) fun t => t.get id) fun p => zao (zjt all p) (zci C HA all n tm.cut p.olds (fun tm' => zcq C (fnV C A) all n tm.cut p.olds m p.stages tm' HA) p.first tm.cut))
  refine Res.ob h1 ?_
  rw [h2]; exact zr5 hst.cut.old (fun st' tm' hs hw => z2r hW hst.cut.old hκ _ _ _ _ _ _ hs hw) _ _ _ hst.cut h3
end
structure PtD where
 p : PI
 m : Tm -> zai -> zb8
def zeq (C : Ctx) (φ : Ora) (fn n : Nat) : zdd -> Kt -> List PtD
 | .skip, _ => []
 | .region _ _ _, _ => []
 | .seq a b, κ => zeq C φ fn n a ⟨den C φ fn n b κ, κ.exit, κ.ret⟩ ++ zeq C φ fn n b κ
 | .cond _ x y, κ => zeq C φ fn n x κ ++ zeq C φ fn n y κ
 | .block id c, κ => zeq C φ fn n c ⟨κ.norm, fun i tm H => Bool.rec (motive := fun _ => zb8) (κ.exit i tm H) (κ.norm tm H) (Nat.beq id i), κ.ret⟩
 | .loop p c, κ => ⟨p, den C φ fn n (.loop p c) κ⟩ :: zeq C φ fn n c ⟨den C φ fn n (.loop p c) κ, κ.exit, κ.ret⟩
 | .exit _, _ => []
 | .ret, _ => []
 | .cut p c, κ => ⟨p, den C φ fn n (.cut p c) κ⟩ :: zeq C φ fn n c κ
def zziv (base kf : Nat) (d : PtD) (vals : List zab) (t : Tr zal) (Q : zaw) : Prop := ∀ X0 X HA tm ν, zdn base X0 kf ν X (stAt kf d.p vals) tm HA t -> Res base X0 Q (d.m tm HA)
def JOk (base kf : Nat) (J : zhu) (l : List PtD) : Prop := ∀ d ∈ l, ∀ vals t Q, J d.p.id vals t Q -> zziv base kf d vals t Q
structure SKt (C : Ctx) (W J : zhu) (X0 : Xt) (kf : Nat) (Q : zaw) (κ : KtT) (m : Kt) : Prop where
 norm : SK C W J X0 kf Q κ.norm m.norm
 exit : ∀ i, SK C W J X0 kf Q (κ.exit i) (m.exit i)
 ret : SK C W J X0 kf Q κ.ret m.ret
theorem ztv {d : Nat} {l : List zab} {st : TSt} : ∀ {ll : List (Nat × Nat)} {b rest : List zab}, zr1 st ll = some b -> (zzax ll (b ++ rest)).get d = some l -> st.lo.get d = some l := by
 intro ll; induction ll with
 | nil => intro b rest _ h; rw [show zzax [] (b ++ rest) = .leaf from rfl, Tr.get_leaf] at h; cases h
 | cons p ll ih =>
  intro b rest hb h; have hb : (ob (zf7 p.1 st.ad) fun a => zao (Nat.beq a.1 p.1 && Nat.beq a.2 0) (ob (st.lo.get p.1) fun l => zao (Nat.beq (zbw l) p.2) (ob (zr1 st ll) fun r => some (ziu l r)))) = some b := hb
  simp only [zad, zae] at hb; obtain ⟨a, _, _, l0, h2, h3, r, h4, h5⟩ := hb
  cases h5; have h : ((zzax ll (zjw (ziu l0 r ++ rest) p.2)).set p.1 (zqj (ziu l0 r ++ rest) p.2)).get d = some l := h
  rw [zc0, zbb] at h3; rw [zcl, zfe, zjh, <- h3, yba, List.drop_left, List.take_left, Tr.get_set] at h; split at h
  ·rename_i e; cases h; rw [e]; exact h2
  ·exact ih h4 h
theorem zzbm {i : Nat} {q : Nat × Nat} {st : TSt} : ∀ {ll : List (Nat × Nat)} {b : List zab}, zr1 st ll = some b -> zf7 i (stAd ll) = some q -> zf7 i st.ad = some q := by
 intro ll; induction ll with
 | nil => intro b _ h; cases h
 | cons p ll ih =>
  intro b hb h; have hb : (ob (zf7 p.1 st.ad) fun a => zao (Nat.beq a.1 p.1 && Nat.beq a.2 0) (ob (st.lo.get p.1) fun l => zao (Nat.beq (zbw l) p.2) (ob (zr1 st ll) fun r => some (ziu l r)))) = some b := hb
  simp only [zad, zae, yac, zc0] at hb; obtain ⟨a, h1, ⟨h2, h3⟩, l0, _, _, r, h4, _⟩ := hb
  have h : zf7 i ((p.1, p.1, 0) :: stAd ll) = some q := h
  rw [ze5] at h; split at h
  ·rename_i e; cases h; rw [e]; show zf7 p.1 st.ad = some (p.1, 0); rw [h1, <- h2, <- h3]
  ·exact ih h4 h
theorem zzbk {i : Nat} {v : zab} {st : TSt} : ∀ {pl : List Nat} {a rest : List zab}, zga (fun i => st.tm.get i) pl = some a -> (zzek pl (a ++ rest)).get i = some v -> st.tm.get i = some v := by
 intro pl; induction pl with
 | nil => intro a rest _ h; rw [show zzek [] (a ++ rest) = .leaf from rfl, Tr.get_leaf] at h; cases h
 | cons j pl ih =>
  intro a rest ha h; rw [zdi, zad] at ha; obtain ⟨u, h1, ha⟩ := ha
  rw [zad] at ha; obtain ⟨r, h2, ha⟩ := ha
  cases ha; have h : ((zzek pl (r ++ rest)).set j u).get i = some v := h
  rw [Tr.get_set] at h; split at h
  ·rename_i e; cases h; rw [e]; exact h1
  ·exact ih h2 h
theorem Tm.get_kv {k i : Nat} {v : Tr zab} {u : zab} (h : Tm.get ⟨k, v, []⟩ i = some u) : i < k /\ v.get i = some u := by
 unfold Tm.get at h; rw [zm1] at h; split at h
 ·rename_i e; exact ⟨zdl.1 e, h⟩
 ·cases h
theorem z2k {p : PI} {st : TSt} {vals : List zab} (h : zr0 p st = some vals) : ∃ a b, vals = a ++ b /\ zga (fun i => st.tm.get i) p.pl = some a /\ zr1 st p.ll = some b /\ a.length = p.pl.length := by
 unfold zr0 at h; simp only [zad] at h; obtain ⟨a, h1, b, h2, h3⟩ := h
 cases h3; refine ⟨a, b, zcl _ _, h1, h2, ?_⟩
 have : ∀ (l : List Nat) (r : List zab), zga (fun i => st.tm.get i) l = some r -> r.length = l.length := by
  intro l; induction l with
  | nil => intro r h; cases h; rfl
  | cons x l ih =>
   intro r h; rw [zdi, zad] at h; obtain ⟨u, _, h⟩ := h
   rw [zad] at h; obtain ⟨s, h5, h⟩ := h
   cases h; simp [ih _ h5]
 exact this _ _ h1
section
variable {W J : zhu} {t : Tr zal} {X X0 : Xt} {HA : zai} {C : Ctx} {A : Tr zdd} {ν : Nat -> Nat} {Q : zaw} {kf n : Nat} {st : TSt} {tm : Tm}
theorem zdn.at (h : zdn C.base X0 kf ν X st tm HA t) {p : PI} {vals : List zab} (hv : zr0 p st = some vals) : zdn C.base X0 kf ν X (stAt kf p vals) tm HA t := by
 obtain ⟨a, b, rfl, h1, h2, h3⟩ := z2k hv
 have hd : zjw (a ++ b) (zbw p.pl) = b := by rw [zfe, zbb, <- h3, List.drop_left]
 refine ⟨h.ov, h.le, rfl, h.kA, ?_, ?_, ?_, ?_⟩
 ·intro i v hi
  exact h.tms i v (zzbk h1 (Tm.get_kv hi).2)
 ·intro i q hi
  exact h.ads i q (zzbm h2 hi)
 ·intro d l hl
  have hl : (zzax p.ll (zjw (a ++ b) (zbw p.pl))).get d = some l := hl
  rw [hd] at hl; have hb : (zzax p.ll (b ++ [])).get d = some l := by rw [ybe]; exact hl
  exact h.lo d l (ztv h2 hb)
 ·intro d d' l l' hl hl' he
  have hl : (zzax p.ll (zjw (a ++ b) (zbw p.pl))).get d = some l := hl
  have hl' : (zzax p.ll (zjw (a ++ b) (zbw p.pl))).get d' = some l' := hl'
  rw [hd] at hl hl'
  have hb : (zzax p.ll (b ++ [])).get d = some l := by rw [ybe]; exact hl
  have hb' : (zzax p.ll (b ++ [])).get d' = some l' := by rw [ybe]; exact hl'
  exact h.inj d d' l l' (ztv h2 hb) (ztv h2 hb') he
theorem z8r {tm : Tm} {i : Nat} {v : zab} (hv : tm.get i = some v) : ∀ {live : List Nat}, i ∈ live -> (zwn tm live).get i = some v := by
 intro live; induction live with
 | nil => intro h; cases h
 | cons j live ih =>
  intro h; show (match tm.get j with | some v => (zwn tm live).set j v | none => zwn tm live : Tr zab).get i = some v
  by_cases e : i = j
  ·subst e; rw [hv]; simp only []; rw [Tr.get_set, if_pos rfl]
  ·have := ih ((yat.1 h).resolve_left e)
   cases tm.get j with
   | none => exact this
   | some u => simp only []; rw [Tr.get_set, if_neg e]; exact this
theorem zzbj {i : Nat} {v : zab} : ∀ {pl : List Nat} {vals : List zab}, (zzek pl vals).get i = some v -> i ∈ pl := by
 intro pl; induction pl with
 | nil => intro vals h; rw [show zzek [] vals = .leaf from rfl, Tr.get_leaf] at h; cases h
 | cons j pl ih =>
  intro vals h
  cases vals with
  | nil => rw [show zzek (j :: pl) [] = .leaf from rfl, Tr.get_leaf] at h; cases h
  | cons u vals =>
   have h : ((zzek pl vals).set j u).get i = some v := h
   rw [Tr.get_set] at h; split at h
   ·rename_i e; rw [e]; exact yaz
   ·exact yas _ (ih h)
theorem zzbl {i : Nat} {q : Nat × Nat} : ∀ {ll : List (Nat × Nat)}, zf7 i (stAd ll) = some q -> i ∈ (List.rec (motive := fun _ => List Nat) [] (fun a _ r => a.1 :: r) ll : List Nat) := by
 intro ll; induction ll with
 | nil => intro h; cases h
 | cons p ll ih =>
  intro h; have h : zf7 i ((p.1, p.1, 0) :: stAd ll) = some q := h
  rw [ze5] at h; split at h
  ·rename_i e; rw [e]; exact yaz
  ·exact yas _ (ih h)
theorem zdn.keep {p : PI} {vals : List zab} (hb : ∀ i, i ∈ p.kept -> i < kf) (h : zdn C.base X0 kf ν X (stAt kf p vals) tm HA t) : zdn C.base X0 kf ν X (stAt kf p vals) (Am.keep p.kept tm) HA t := by
 have key : ∀ i v, i ∈ p.kept -> tm.get i = some v -> (Am.keep p.kept tm).get i = some v := by
  intro i v hi hv; unfold Am.keep Tm.get; rw [zm1, if_pos (zdl.2 (by rw [h.kA]; exact hb i hi))]
  exact z8r hv hi
 refine ⟨h.ov, h.le, rfl, h.kA, ?_, ?_, h.lo, h.inj⟩
 ·intro i v hi
  refine key i v ?_ (h.tms i v hi)
  unfold PI.kept; rw [zcl]; exact List.mem_append_left _ (zzbj (Tm.get_kv hi).2)
 ·intro i q hi
  refine key i _ ?_ (h.ads i q hi)
  unfold PI.kept; rw [zcl]; exact ybg _ (zzbl hi)
theorem zy6 {l : List PtD} (hJ : JOk C.base kf J l) {p : PI} {m : Tm -> zai -> zb8} (hm : (⟨p, m⟩ : PtD) ∈ l) : SK C W J X0 kf Q (z3p p) m := by
 intro st tm HA t X ν hst h; unfold z3p at h; rw [zbq] at h; obtain ⟨vals, h1, h2⟩ := h
 exact hJ _ hm vals t Q h2 _ _ _ _ _ (hst.at h1)
theorem ztp (hW : zm7 C A W) {la : List Nat} {f : Nat} : ∀ (c : zdd) (κ : KtT) (m : Kt), SKt C W J X0 kf Q κ m -> JOk C.base kf J (zeq C (fnV C A) f n c m) -> SK C W J X0 kf Q (z0g C la f n c κ) (den C (fnV C A) f n c m) := by
 intro c; induction c with
 | skip => intro κ m hκ _; exact hκ.norm
 | region id ops d => intro κ m hκ _; exact z2t hW hκ.norm
 | seq a b iha ihb =>
  intro κ m hκ hJ; exact iha ⟨z0g C la f n b κ, κ.exit, κ.ret⟩ ⟨den C (fnV C A) f n b m, m.exit, m.ret⟩ ⟨ihb κ m hκ fun d hd => hJ d (ybg _ hd), hκ.exit, hκ.ret⟩ fun d hd => hJ d (List.mem_append_left _ hd)
 | cond x a b iha ihb =>
  intro κ m hκ hJ st tm HA t X ν hst h; have ha := iha κ m hκ fun d hd => hJ d (List.mem_append_left _ hd)
  have hb := ihb κ m hκ fun d hd => hJ d (ybg _ hd)
  have h : wpT C.base W J (obT (ob (ev x (.now st.tm)) zab.asBool) fun b' => bif zze1 x st.lit then Bool.rec (motive := fun _ => T) (z0g C la f n b κ st) (z0g C la f n a κ st) b' else .ite b' (z0g C la f n a κ st) (z0g C la f n b κ st)) t Q := h
  rw [zbq] at h; obtain ⟨w, h1, h2⟩ := h
  rw [zad] at h1; obtain ⟨v, h3, h4⟩ := h1
  show Res C.base X0 Q (ob (ob (ev x (.now tm)) zab.asBool) fun t => Bool.rec (motive := fun _ => zb8) (den C (fnV C A) f n b m tm HA) (den C (fnV C A) f n a m tm HA) t)
  refine Res.ob (a := w) (by rw [za3 (zyv hst).1 h3]; exact h4) ?_
  have h2 : if w = true then wpT C.base W J (z0g C la f n a κ st) t Q else wpT C.base W J (z0g C la f n b κ st) t Q := by
   rw [zar] at h2; split at h2
   ·cases w <;> exact h2
   ·exact h2
  cases w with
  | true => exact ha _ _ _ _ _ _ hst h2
  | false => exact hb _ _ _ _ _ _ hst h2
 | block id c ih =>
  intro κ m hκ hJ; refine ih ⟨κ.norm, fun i st => Bool.rec (motive := fun _ => T) (κ.exit i st) (κ.norm st) (Nat.beq id i), κ.ret⟩ ⟨m.norm, fun i tm H => Bool.rec (motive := fun _ => zb8) (m.exit i tm H) (m.norm tm H) (Nat.beq id i), m.ret⟩ ⟨hκ.norm, fun i => ?_, hκ.ret⟩ hJ
  intro st tm HA t X ν hst h; have h : wpT C.base W J (Bool.rec (motive := fun _ => T) (κ.exit i st) (κ.norm st) (Nat.beq id i)) t Q := h
  show Res C.base X0 Q (Bool.rec (motive := fun _ => zb8) (m.exit i tm HA) (m.norm tm HA) (Nat.beq id i))
  cases hb : Nat.beq id i with
  | true => rw [hb] at h; exact hκ.norm _ _ _ _ _ _ hst h
  | false => rw [hb] at h; exact hκ.exit i _ _ _ _ _ _ hst h
 | loop p c ih => intro κ m hκ hJ; exact zy6 hJ yaz
 | exit id => intro κ m hκ _; exact hκ.exit id
 | ret => intro κ m hκ _; exact hκ.ret
 | cut p c ih => intro κ m hκ hJ; exact zy6 hJ yaz
def PtOk (C : Ctx) (W J : zhu) (kf : Nat) (l : List PtT) (d : PtD) : Prop := ∃ q ∈ l, q.p = d.p /\ ∀ vals t Q, wpT C.base W J (q.tree vals) t Q -> zziv C.base kf d vals t Q
def ziv (kf : Nat) : zdd -> Bool
 | .seq a b => ziv kf a && ziv kf b
 | .cond _ a b => ziv kf a && ziv kf b
 | .block _ c => ziv kf c
 | .loop p c => p.kept.all (fun i => Nat.blt i kf) && ziv kf c
 | .cut p c => p.kept.all (fun i => Nat.blt i kf) && ziv kf c
 | _ => true
theorem z7a (hW : zm7 C A W) {la : List Nat} {f : Nat} : ∀ (c : zdd) (κ : KtT) (m : Kt), ziv kf c = true -> (∀ X0 Q, SKt C W J X0 kf Q κ m) -> JOk C.base kf J (zeq C (fnV C A) f n c m) -> ∀ d ∈ zeq C (fnV C A) f n c m, PtOk C W J kf (zj9 C la f n kf c κ) d := by
 have up : ∀ {l l' : List PtT} {d : PtD}, PtOk C W J kf l d -> (∀ q ∈ l, q ∈ l') -> PtOk C W J kf l' d := fun ⟨q, h1, h2⟩ hl => ⟨q, hl q h1, h2⟩
 intro c; induction c with
 | skip => intro κ m _ _ _ d hd; cases hd
 | region id ops dr => intro κ m _ _ _ d hd; cases hd
 | seq a b iha ihb =>
  intro κ m hk hκ hJ d hd; unfold ziv at hk; rw [yac] at hk; have e : zj9 C la f n kf (.seq a b) κ = zj9 C la f n kf a ⟨z0g C la f n b κ, κ.exit, κ.ret⟩ ++ zj9 C la f n kf b κ := zcl _ _
  rw [e]; have hJa : JOk C.base kf J (zeq C (fnV C A) f n a ⟨den C (fnV C A) f n b m, m.exit, m.ret⟩) := fun d hd => hJ d (List.mem_append_left _ hd)
  have hJb : JOk C.base kf J (zeq C (fnV C A) f n b m) := fun d hd => hJ d (ybg _ hd)
  rcases List.mem_append.1 hd with hd | hd
  ·exact up (iha ⟨z0g C la f n b κ, κ.exit, κ.ret⟩ ⟨den C (fnV C A) f n b m, m.exit, m.ret⟩ hk.1 (fun X0 Q => ⟨ztp hW b κ m (hκ X0 Q) hJb, (hκ X0 Q).exit, (hκ X0 Q).ret⟩) hJa d hd) fun q hq => List.mem_append_left _ hq
  ·exact up (ihb _ _ hk.2 hκ hJb d hd) fun q hq => ybg _ hq
 | cond x a b iha ihb =>
  intro κ m hk hκ hJ d hd; unfold ziv at hk; rw [yac] at hk; have e : zj9 C la f n kf (.cond x a b) κ = zj9 C la f n kf a κ ++ zj9 C la f n kf b κ := zcl _ _
  rw [e]; rcases List.mem_append.1 hd with hd | hd
  ·exact up (iha _ _ hk.1 hκ (fun d hd => hJ d (List.mem_append_left _ hd)) d hd) fun q hq => List.mem_append_left _ hq
  ·exact up (ihb _ _ hk.2 hκ (fun d hd => hJ d (ybg _ hd)) d hd) fun q hq => ybg _ hq
 | block id c ih =>
  intro κ m hk hκ hJ d hd; refine ih ⟨κ.norm, fun i st => Bool.rec (motive := fun _ => T) (κ.exit i st) (κ.norm st) (Nat.beq id i), κ.ret⟩ ⟨m.norm, fun i tm H => Bool.rec (motive := fun _ => zb8) (m.exit i tm H) (m.norm tm H) (Nat.beq id i), m.ret⟩ hk (fun X0 Q => ⟨(hκ X0 Q).norm, fun i => ?_, (hκ X0 Q).ret⟩) hJ d hd
  intro st tm HA t X ν hst h; have h : wpT C.base W J (Bool.rec (motive := fun _ => T) (κ.exit i st) (κ.norm st) (Nat.beq id i)) t Q := h
  show Res C.base X0 Q (Bool.rec (motive := fun _ => zb8) (m.exit i tm HA) (m.norm tm HA) (Nat.beq id i))
  cases hb : Nat.beq id i with
  | true => rw [hb] at h; exact (hκ X0 Q).norm _ _ _ _ _ _ hst h
  | false => rw [hb] at h; exact (hκ X0 Q).exit i _ _ _ _ _ _ hst h
 | loop p c ih =>
  intro κ m hk hκ hJ d hd; unfold ziv at hk; rw [yac, ybc] at hk; have hJc : JOk C.base kf J (zeq C (fnV C A) f n c ⟨den C (fnV C A) f n (.loop p c) m, m.exit, m.ret⟩) := fun d hd => hJ d (yas _ hd)
  have hκ' : ∀ X0 Q, SKt C W J X0 kf Q ⟨z3p p, κ.exit, κ.ret⟩ ⟨den C (fnV C A) f n (.loop p c) m, m.exit, m.ret⟩ := fun X0 Q => ⟨zy6 hJ yaz, (hκ X0 Q).exit, (hκ X0 Q).ret⟩
  rcases yat.1 hd with rfl | hd
  ·refine ⟨_, yaz, rfl, fun vals t Q hw X0 X HA tm ν hst => ?_⟩
   show Res C.base X0 Q (den C (fnV C A) f n (.loop p c) m tm HA)
   rw [zzdl]; exact ztp hW c _ _ (hκ' X0 Q) hJc _ _ _ _ _ _ (hst.keep fun i hi => zdl.1 (hk.1 i hi)) hw
  ·exact up (ih ⟨z3p p, κ.exit, κ.ret⟩ ⟨den C (fnV C A) f n (.loop p c) m, m.exit, m.ret⟩ hk.2 hκ' hJc d hd) fun q hq => yas _ hq
 | exit id => intro κ m _ _ _ d hd; cases hd
 | ret => intro κ m _ _ _ d hd; cases hd
 | cut p c ih =>
  intro κ m hk hκ hJ d hd; unfold ziv at hk; rw [yac, ybc] at hk; have hJc : JOk C.base kf J (zeq C (fnV C A) f n c m) := fun d hd => hJ d (yas _ hd)
  rcases yat.1 hd with rfl | hd
  ·refine ⟨_, yaz, rfl, fun vals t Q hw X0 X HA tm ν hst => ?_⟩
   exact ztp hW c _ _ (hκ X0 Q) hJc _ _ _ _ _ _ (hst.keep fun i hi => zdl.1 (hk.1 i hi)) hw
  ·exact up (ih _ _ hk.2 hκ hJc d hd) fun q hq => yas _ hq
end
end Go.Am
namespace Go.Am
open Go Go.RowKit
def Tr.mapT {α β : Type} (f : α -> β) (t : Tr α) : Tr β := Tr.rec (motive := fun _ => Tr β) .leaf (fun _ v _ l r => .node l (match v with | some a => some (f a) | none => none) r) t
theorem Tr.get_mapT {α β : Type} (f : α -> β) : ∀ (t : Tr α) (n : Nat), (t.mapT f).get n = (t.get n).map f := by
 intro t; induction t with
 | leaf => intro n; rfl
 | node l v r ihl ihr =>
  intro n; show (Tr.node (l.mapT f) (match v with | some a => some (f a) | none => none) (r.mapT f)).get n = _
  rw [Tr.get_node, Tr.get_node]; split
  ·cases v <;> rfl
  ·split
   ·exact ihl _
   ·exact ihr _
def zho (F : Tr zcs) : Tr zdd := F.mapT zcs.code
structure zdz (C : Ctx) (F : Tr zcs) (f : Nat) (fn : Func) (kf : Nat) (A : zcs) : Prop where
 isF : F.get f = some A
 isFn : C.fns.get f = some fn
 isK : C.ks.get f = some kf
 prim : zez (C.prims.get f) = true
 kept : ziv kf A.code = true
 body : zez fn.body = false
def Wc (C : Ctx) (F : Tr zcs) : zhu := fun f args t Q => ∀ X HA, Ov C.base t X HA -> Res C.base X Q (zzv C (zho F) f args HA)
theorem Tr.bound {α : Type} (t : Tr α) : ∃ n, ∀ b y, t.get b = some y -> b < n := by
 induction t with
 | leaf => exact ⟨0, fun b y h => by rw [Tr.get_leaf] at h; cases h⟩
 | node l v r ihl ihr =>
  obtain ⟨n, hn⟩ := ihl
  obtain ⟨m, hm⟩ := ihr
  refine ⟨2 * n + 2 * m + 3, fun b y h => ?_⟩
  rw [Tr.get_node] at h; split at h
  ·omega
  ·split at h
   ·have := hn _ _ h; omega
   ·have := hm _ _ h; omega
def PV (C : Ctx) (F : Tr zcs) (f : Nat) (args : List zab) (t : Tr zal) (v : zab) : Prop := Wc C F f args t fun v' t' => v' = v /\ t' = t
theorem PV.unique {C : Ctx} {F : Tr zcs} {f : Nat} {args : List zab} {t : Tr zal} {v v' : zab} (h : PV C F f args t v) (h' : PV C F f args t v') : v = v' := by
 obtain ⟨n, hn⟩ := Tr.bound t
 have ho : Ov C.base t (fun _ => none) ⟨C.base + n, t⟩ := ⟨Nat.le_add_right _ _, fun _ _ => rfl, fun _ _ h => (by cases h), fun b y hb => Nat.lt_of_lt_of_le (hn b y hb) (Nat.le_add_left _ _)⟩
 obtain ⟨u, t', HA', X', h1, _, _, h2, _⟩ := h _ _ ho
 obtain ⟨u', t'', HA'', X'', h3, _, _, h4, _⟩ := h' _ _ ho
 rw [h1] at h3
 cases h3; rw [<- h2, <- h4]
def pvC (C : Ctx) (F : Tr zcs) (f : Nat) (args : List zab) (t : Tr zal) : Option zab := @dite _ (∃ v, PV C F f args t v) (Classical.propDecidable _) (fun h => some h.choose) (fun _ => none)
theorem zbk {C : Ctx} {F : Tr zcs} {f : Nat} {args : List zab} {t : Tr zal} {v : zab} : pvC C F f args t = some v ↔ PV C F f args t v := by
 unfold pvC; constructor
 ·intro h
  by_cases hx : ∃ v, PV C F f args t v
  ·rw [dif_pos hx] at h; cases h; exact hx.choose_spec
  ·rw [dif_neg hx] at h; cases h
 ·intro h
  have hx : ∃ v, PV C F f args t v := ⟨v, h⟩
  rw [dif_pos hx, PV.unique hx.choose_spec h]
def Wq (C : Ctx) (F : Tr zcs) (pure : Nat -> Bool) : zhu := fun f args t R => if pure f = true then zed (pvC C F f args t) fun v => R v t else Wc C F f args t R
theorem Wq_ok {C : Ctx} {F : Tr zcs} {pure : Nat -> Bool} : zm7 C (zho F) (Wq C F pure) := by
 intro f args t R h X HA ho; unfold Wq at h; split at h
 ·rw [zgs] at h
  obtain ⟨v, h1, h2⟩ := h
  exact ((zbk.1 h1) X HA ho).mono fun v' t' hh => by rw [hh.1, hh.2]; exact h2
 ·exact h X HA ho
def Jq (C : Ctx) (F : Tr zcs) (f : Nat) : zhu := fun i vals t Q => ∀ fn kf A, zdz C F f fn kf A -> ∀ d ∈ zeq C (fnV C (zho F)) f fn.ntmps A.code (zza8 C fn), d.p.id = i -> zziv C.base kf d vals t Q
theorem Jq_ok {C : Ctx} {F : Tr zcs} {f : Nat} {fn : Func} {kf : Nat} {A : zcs} (h : zdz C F f fn kf A) : JOk C.base kf (Jq C F f) (zeq C (fnV C (zho F)) f fn.ntmps A.code (zza8 C fn)) :=
 fun d hd _ _ _ hJ => hJ fn kf A h d hd rfl
section
variable {W J : zhu} {t : Tr zal} {X X0 : Xt} {HA : zai} {C : Ctx} {A : Tr zdd} {ν : Nat -> Nat} {Q : zaw} {kf n : Nat} {st : TSt} {tm : Tm}
theorem zzgs (hst : zdn C.base X0 kf ν X st tm HA t) : ∀ (l : List ResultVar) (K : List zab -> T), wpT C.base W J (resT C st l K) t Q -> ∃ vs, zjd C HA tm l = some vs /\ wpT C.base W J (K vs) t Q := by
 intro l; induction l with
 | nil => intro K h; exact ⟨[], rfl, h⟩
 | cons r l ih =>
  intro K h
  cases r with
  | tmp i =>
   have h : wpT C.base W J (obT (st.tm.get i) fun v => resT C st l fun l => K (v :: l)) t Q := h
   rw [zbq] at h; obtain ⟨v, h1, h2⟩ := h
   obtain ⟨vs, h3, h4⟩ := ih _ h2
   refine ⟨v :: vs, ?_, h4⟩
   show zga (zj8 C HA tm) _ = _
   rw [zdi]; show ob (tm.get i) _ = _
   rw [hst.tms _ _ h1, zac]; have h3 : zga (zj8 C HA tm) l = some vs := h3
   rw [h3]; rfl
  | cell a ty =>
   have h : wpT C.base W J (match zf7 a st.ad with
    | some p => obT (st.lo.get p.1) fun m => obT (C.tys.get ty) fun y => gdT (Nat.ble (p.2 + y.size) (zbw m)) (obT (zoy C ty m p.2) fun v => resT C st l fun l => K (v :: l))
    | none => obT (st.tm.get a) fun a => .light (fun m => zap C ty ⟨0, m⟩ a) fun v => resT C st l fun l => K (v :: l)) t Q := h
   have fin : ∀ {u v : zab}, tm.get a = some u -> zap C ty HA u = some v -> wpT C.base W J (resT C st l fun l => K (v :: l)) t Q -> ∃ vs, zjd C HA tm (.cell a ty :: l) = some vs /\ wpT C.base W J (K vs) t Q := by
    intro u v h1 h2 h3; obtain ⟨vs, h4, h5⟩ := ih _ h3
    refine ⟨v :: vs, ?_, h5⟩
    show zga (zj8 C HA tm) _ = _
    rw [zdi]; have e : zj8 C HA tm (.cell a ty) = some v := by
     show (ob (ob (tm.get a) zab.asPtr) fun p => ob (C.tys.get ty) fun ty => ob (za1 HA p.1) fun c => znn ty c.1 p.2) = some v
     unfold zap at h2; rw [h1, zac]; exact h2
    have h4 : zga (zj8 C HA tm) l = some vs := h4
    rw [e, zac, h4]; rfl
   split at h
   ·rename_i p hp
    simp only [zbq, zhv] at h; obtain ⟨m, h1, y, h2, h3, v, h4, h5⟩ := h
    exact fin (hst.ads _ _ hp) (z1g hst.ov hst.lo h1 h2 h3 h4) h5
   ·simp only [zbq, zkq] at h
    obtain ⟨u, h1, v, h2, h3⟩ := h
    exact fin (hst.tms _ _ h1) (zeg hst.ov.le h2) h3
theorem z9p {fn : Func} : SK C W J X0 kf Q (endT C fn) (endK C fn) := by
 intro st tm HA t X ν hst h; obtain ⟨vs, h1, h2⟩ := zzgs hst _ _ h
 unfold endK; exact Res.ob h1 ⟨_, t, HA, X, rfl, hst.ov, hst.le, h2⟩
theorem z5j {fn : Func} : SKt C W J X0 kf Q (topT C fn) (zza8 C fn) := ⟨z9p, fun _ _ _ _ _ _ _ _ h => h.elim, z9p⟩
end
section
variable {C : Ctx} {F : Tr zcs} {f : Nat} {fn : Func} {kf : Nat} {A : zcs} {pure : Nat -> Bool} {t : Tr zal} {Q : zaw}
theorem zbu (h : zdz C F f fn kf A) {args : List zab} (hl : (Nat.ble (zbw args) kf && Nat.ble (zbw args) fn.ntmps) = true) (hw : wpT C.base (Wq C F pure) (Jq C F f) (entT C fn kf f A args) t Q) : Wc C F f args t Q := by
 intro X HA ho; have hA : (zho F).get f = some A.code := by unfold zho; rw [Tr.get_mapT, h.isF]; rfl
 obtain ⟨body, hb⟩ : ∃ b, fn.body = some b := by
  cases hx : fn.body with
  | none => have := h.body; rw [hx] at this; cases this
  | some b => exact ⟨b, rfl⟩
 have he : zeo C f args false = some ⟨[.code body], ⟨kf, Tr.ofList args, []⟩, ⟨f, fn.ntmps, [], .run, false, none⟩⟩ := by
  unfold zeo; rw [h.isFn, zac, hb, zac, h.isK, zac, hl]; rfl
 have hp : C.prims.get f = none := by
  cases hx : C.prims.get f with
  | none => rfl
  | some g => have := h.prim; rw [hx] at this; cases this
 unfold zzv; rw [hp]; show Res C.base X Q (fnV C (zho F) f args HA)
 rw [fnV_eq]; unfold zna; refine Res.ob hA (Res.ob h.isFn (Res.ob he ?_))
 have hst : zdn C.base X kf (fun i => i) X ⟨⟨kf, Tr.ofList args, []⟩, [], .leaf, []⟩ ⟨kf, Tr.ofList args, []⟩ HA t :=
  ⟨ho, XLe.refl _, rfl, rfl, fun _ _ h => h, fun _ _ h => (by cases h), fun d l h => (by rw [Tr.get_leaf] at h; cases h), fun d _ l _ h => (by rw [Tr.get_leaf] at h; cases h)⟩
 exact ztp Wq_ok A.code (topT C fn) (zza8 C fn) z5j (Jq_ok h) _ _ _ _ _ _ hst hw
theorem Jq_of (h : zdz C F f fn kf A) {i : Nat} {vals : List zab} {l : List T} (hp : z7b (ptsT C fn kf f A) i vals = l) (hw : ∀ T ∈ l, wpT C.base (Wq C F pure) (Jq C F f) T t Q) : Jq C F f i vals t Q := by
 intro fn' kf' A' h' d hd hi; have e1 := h.isFn; rw [h'.isFn] at e1; cases e1
 have e2 := h.isK; rw [h'.isK] at e2; cases e2
 have e3 := h.isF; rw [h'.isF] at e3; cases e3
 obtain ⟨q, h1, h2, h3⟩ := z7a (W := Wq C F pure) Wq_ok A.code (topT C fn) (zza8 C fn) h.kept (fun _ _ => z5j) (Jq_ok h) d hd
 refine h3 vals t Q (hw _ ?_)
 subst hp; have key : ∀ (l : List PtT), q ∈ l -> q.tree vals ∈ z7b l i vals := by
  intro l; induction l with
  | nil => intro h; cases h
  | cons p l ih =>
   intro hm; show q.tree vals ∈ (bif Nat.beq p.p.id i then p.tree vals :: z7b l i vals else z7b l i vals)
   rw [zar]; rcases yat.1 hm with e | hm
   ·subst e
    rw [if_pos (by rw [h2]; exact zc0.2 hi)]
    exact yaz
   ·split
    ·exact yas _ (ih hm)
    ·exact ih hm
 exact key _ h1
theorem zbp (h : zdz C F f fn kf A) {i : Nat} {vals : List zab} {T : T} (hp : z7b (ptsT C fn kf f A) i vals = [T]) (hw : wpT C.base (Wq C F pure) (Jq C F f) T t Q) : Jq C F f i vals t Q :=
 Jq_of h hp fun T' hT => by rw [List.mem_singleton.1 hT]; exact hw
theorem zt1 {g : List zab -> zai -> Option zab} (hg : C.prims.get f = some g) {args : List zab} {v : zab} (h : ∀ H, g args H = some v) : pvC C F f args t = some v := by
 refine zbk.2 fun X HA ho => ?_
 unfold zzv; rw [hg]; exact ⟨v, t, HA, X, by simp only [h HA, zac], ho, XLe.refl _, rfl, rfl⟩
theorem z3a {args : List zab} {v : zab} (h : Wc C F f args t fun v' t' => v' = v /\ ∀ b y, t.get b = some y -> t'.get b = some y) : pvC C F f args t = some v := by
 refine zbk.2 fun X HA ho => ?_
 obtain ⟨u, t', HA', X', h1, h2, h3, h4, h5⟩ := h X HA ho
 refine ⟨u, t, HA', fun b => match t.get b with | some _ => none | none => HA'.t.get b, h1, ⟨h2.base, ?_, ?_, ?_⟩, ?_, h4, rfl⟩
 ·intro b hb
  cases hg : t.get b with
  | some y => rw [h2.up (h5 b y hg)]
  | none => simp only [hg] at hb; exact hb
 ·intro b y hb
  cases hg : t.get b with
  | some y => simp only [hg] at hb; cases hb
  | none =>
   simp only [hg] at hb; refine ⟨hb, rfl, ?_⟩
   cases hx : X' b with
   | some z => exact (h2.ext b z hx).2.2
   | none => rw [h2.same b hx] at hb; exact h2.lt b y hb
 ·intro b y hb; exact h2.lt b y (h5 b y hb)
 ·intro b y hb
  have hn := (ho.ext b y hb).2.1
  simp only [hn]; exact (h2.ext b y (h3 b y hb)).1
end
theorem zzu {P : Program} {C : Ctx} {F : Tr zcs} {B N : Nat} {I : World -> Prop} {μ : Mu} {w : World} (hS : Sim P C B N I) (hI : I w) (hA : zl4 C (zho F)) {f : Nat} (hp : C.prims.get f = none) {args : List zab} {args' : Array Value} {H : zai} {Q : zaw} (hbase : C.base <= H.next) (hlt : ∀ b y, H.t.get b = some y -> b < H.next) (hH : zb0 B N μ H w) (hl : zby μ args args'.toList)
  (h : Wc C F f args H.t Q) : Calls P f args' w fun e w' => ∃ v v' t' μ', e = .returned v' /\ μ.lw μ' /\ zaq μ' v v' /\ Q v t' /\ Below N w w' := by
 obtain ⟨v, t', HA', X', h1, h2, h3, h4⟩ := h (fun _ => none) H ⟨hbase, fun _ _ => rfl, fun _ _ h => (by cases h), hlt⟩
 unfold zzv at h1; rw [hp] at h1; intro base; obtain ⟨e, w', b, ⟨v', μ', g1, g2, g3, g4, g5⟩, g6⟩ := zw5 hS hI hA hH hl h1 base
 exact ⟨e, w', b, ⟨v, v', t', μ', g1, g2, g3, h4, g5⟩, g6⟩
end Go.Am
namespace Go.Am
open Go Go.RowKit
def piOf (i : Nat) (l : List (Nat × PI)) : Option PI := List.rec (motive := fun _ => Option PI) none (fun a _ g => bif Nat.beq i a.1 then some a.2 else g) l
def cutP (p : Option PI) (c : zdd) : zdd :=
 match p with
 | some p => .cut p c
 | none => c
def zzhd (p : Option PI) (c : zdd) : zdd :=
 match p with
 | some p => .loop p c
 | none => .loop ⟨0, [], []⟩ c
def zor (rt lt : List (Nat × PI)) (c : Code) : Nat -> zdd :=
 Code.rec (motive := fun _ => Nat -> zdd)
  (fun _ => .skip)
  (fun id ops d _ => cutP (piOf id rt) (.region id ops d))
  (fun _ _ ga gb k => .seq (ga k) (gb k))
  (fun c _ _ gx gy k => .cond c (gx k) (gy k))
  (fun id _ g _ => .block id (g id))
  (fun _ g k => zzhd (piOf k lt) (g k))
  (fun _ _ _ _ _ _ _ => .skip)
  (fun id _ => .exit id)
  (fun _ _ _ => .skip)
  (fun _ _ => .skip)
  (fun _ _ => .skip)
  (fun _ => .ret)
  (fun _ _ => .skip) c
def zbs (rt lt : List (Nat × PI)) (k : Nat) (c : Code) : zdd := zor rt lt c k
def zjs (c : Code) : Bool :=
 Code.rec (motive := fun _ => Bool) true (fun _ _ _ => true) (fun _ _ a b => bif a then b else false) (fun _ _ _ a b => bif a then b else false) (fun _ _ a => a) (fun _ a => a)
  (fun _ _ _ _ _ _ => false) (fun _ => true) (fun _ _ => false) (fun _ => false) (fun _ => false) true (fun _ => false) c
theorem z31 (p : Option PI) (c : zdd) : ze8 (cutP p c) = ze8 c := by cases p <;> rfl
theorem zzj (p : Option PI) (c : zdd) : ze8 (zzhd p c) = .loop (ze8 c) := by cases p <;> rfl
theorem zzk {rt lt : List (Nat × PI)} : ∀ (c : Code) (k : Nat), zjs c = true -> ze8 (zor rt lt c k) = c := by
 intro c; induction c with
 | skip => intro k _; rfl
 | region id ops d => intro k _; show ze8 (cutP _ _) = _; rw [z31]; rfl
 | seq a b iha ihb =>
  intro k h; have h : (bif zjs a then zjs b else false) = true := h
  have ha : zjs a = true := by cases hx : zjs a with | true => rfl | false => rw [hx] at h; cases h
  have hb : zjs b = true := by rw [ha] at h; exact h
  show Code.seq (ze8 (zor rt lt a k)) (ze8 (zor rt lt b k)) = _
  rw [iha k ha, ihb k hb]
 | cond c x y ihx ihy =>
  intro k h; have h : (bif zjs x then zjs y else false) = true := h
  have ha : zjs x = true := by cases hx : zjs x with | true => rfl | false => rw [hx] at h; cases h
  have hb : zjs y = true := by rw [ha] at h; exact h
  show Code.cond c (ze8 (zor rt lt x k)) (ze8 (zor rt lt y k)) = _
  rw [ihx k ha, ihy k hb]
 | block id c ih => intro k h; show Code.block id (ze8 (zor rt lt c id)) = _; rw [ih id h]
 | loop c ih => intro k h; show ze8 (zzhd _ (zor rt lt c k)) = _; rw [zzj, ih k h]
 | exit id => intro k _; rfl
 | ret => intro k _; rfl
 | rangeFunc f ps a b _ _ => intro k h; cases h
 | scope c _ => intro k h; cases h
 | label l => intro k h; cases h
 | goto l => intro k h; cases h
 | refuse s => intro k h; cases h
def tabF (l : List (Nat × zcs)) : Tr zcs := List.rec (motive := fun _ => Tr zcs) .leaf (fun p _ g => g.set p.1 p.2) l
theorem zzba {l : List (Nat × zcs)} {f : Nat} {A : zcs} (h : (tabF l).get f = some A) : (f, A) ∈ l := by
 induction l with
 | nil => rw [show tabF [] = .leaf from rfl, Tr.get_leaf] at h; cases h
 | cons p l ih =>
  have h : ((tabF l).set p.1 p.2).get f = some A := h
  rw [Tr.get_set] at h; split at h
  ·rename_i e; cases h; rw [e]; exact yaz
  ·exact yas _ (ih h)
def zzf0 (C : Ctx) (p : Nat × zcs) : Prop := ∃ fn c, C.fns.get p.1 = some fn /\ fn.body = some c /\ ze8 p.2.code = c
theorem za6 {C : Ctx} {f : Nat} {fn : Func} {c : Code} {rt lt : List (Nat × PI)} {la : List Nat} (h1 : C.fns.get f = some fn) (h2 : fn.body = some c) (h3 : zjs c = true) : zzf0 C (f, ⟨zbs rt lt 0 c, la⟩) := ⟨fn, c, h1, h2, zzk c 0 h3⟩
theorem z38 {C : Ctx} {l : List (Nat × zcs)} (h : ∀ p ∈ l, zzf0 C p) : zl4 C (zho (tabF l)) := by
 intro f c hc; unfold zho at hc; rw [Tr.get_mapT] at hc
 cases hq : (tabF l).get f with
 | none => rw [hq] at hc; cases hc
 | some A =>
  rw [hq] at hc
  cases hc; obtain ⟨fn, b, h1, h2, h3⟩ := h _ (zzba hq)
  exact ⟨fn, h1, by rw [h2, h3]⟩
end Go.Am
namespace Go.Am
class zcf where
 n : Nat
def zzgx (a : List zab) (_ : zai) : Option zab := match a with | [] => some (.bool true) | _ => none
def z3q : List Nat -> List Nat -> Bool
 | [], _ => true
 | _ :: _, [] => false
 | a :: x, b :: y => bif Nat.beq a b then z3q x y else false
def zzdn (sub : List Nat) : List Nat -> Option (List Nat × List Nat)
 | [] => bif sub.isEmpty then some ([], []) else none
 | b :: l => bif z3q sub (b :: l) then some ([], zjw (b :: l) (zbw sub)) else ob (zzdn sub l) fun p => some (b :: p.1, p.2)
def pCut (a : List zab) (_ : zai) : Option zab := match a with
 | [.str s, .str c] => zao (Nat.blt (zbw s) 4294967281) (match zzdn c s with
  | some p => some (.tup [.str p.1, .str p.2, .bool true])
  | none => some (.tup [.str s, .str [], .bool false]))
 | _ => none
def zy8 (n : Int) : List Nat := (Lib.itoa n).map UInt8.toNat
def z7g (a : List zab) (_ : zai) : Option zab := match a with
 | [.int .i64 n] => zao (iLe (-9223372036854775808) n && iLt n 9223372036854775808) (some (.str (zy8 n)))
 | _ => none
def zx4 (v : zab) : Option Nat := ob v.asIntK fun p => zao (kEq p.1 .u32) (ob (zkc p.2) fun n => zao (Nat.blt n 4294967296) (some n))
def zy1 : List zab -> Option zab
 | [] => some (.int .u64 0)
 | [a] => ob (zx4 a) fun x => some (.int .u64 (.ofNat x))
 | [a, b] => ob (zx4 a) fun x => ob (zx4 b) fun y => some (.int .u64 (.ofNat (x + 4294967296 * y)))
 | _ => none
def z7f (a : List zab) (H : zai) : Option zab := match a with
 | [v] => (match v.asSlice with
  | some s => bif Nat.blt s.2.2.1 3 then ob (za1 H s.1) fun c => ob (c.1.many s.2.2.1 s.2.1) zy1 else none
  | none => zao (Nat.beq v.tag 5) (some (.int .u64 0)))
 | _ => none
end Go.Am
