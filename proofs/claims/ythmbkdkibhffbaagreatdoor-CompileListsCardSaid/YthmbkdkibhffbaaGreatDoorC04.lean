/- The simulation: states. -/
import Derived.Test.YthmbkdkibhffbaaGreatDoorC03
set_option linter.all false
noncomputable section
namespace Go.Am
open Go Go.RowKit
section
variable {P : Program} {C : Ctx} {B N : Nat} {μ ν : Mu} {H H' : zai} {w : World} {n : Nat} {tm : Tm} {tmps : Array Value} {ds : List Deferred} {dp : Nat}
theorem zcm.put {v : zab} {v' : Value} {dst : Option Nat} (h : zcm μ n tm tmps) (hv : zaq μ v v') : zcm μ n (putA n tm dst v) (Act.put ⟨tmps, ds⟩ dst v').tmps := by
 cases dst with
 | none => exact h
 | some d =>
  refine ⟨by simp [Act.put, h.1], fun t x hx => ?_⟩
  rw [zb1] at hx; simp only [Act.put, Array.getD_eq_getD_getElem?, Array.getElem?_setIfInBounds]; by_cases e : d = t
  ·subst e
   by_cases hn : d < n
   ·rw [if_pos ⟨rfl, hn⟩] at hx
    cases hx; simp [h.1, hn, hv]
   ·rw [if_neg fun k => hn k.2] at hx
    have := h.2 d x hx
    rw [zk0 (by rw [h.1]; omega)] at this
    simp [h.1, hn, this]
  ·rw [if_neg fun k => e (Option.some.inj k.1)] at hx
   have := h.2 t x hx
   rw [Array.getD_eq_getD_getElem?] at this; simpa [e] using this
structure zf8 (C : Ctx) (μ : Mu) (dp : Nat) (cur : Option zai) (fr : zav) (b : Frame) : Prop where
 rest : zbx μ fr.R b
 body : if fr.R.mode.running = true then zdy C μ dp fr.R.n cur fr.todo fr.tm b.todo b.tmps else zcm μ fr.R.n fr.tm b.tmps
theorem zf8.mono (h : μ.ln dp ν) {cur : Option zai} {fr : zav} {b : Frame} (r : zf8 C μ dp cur fr b) : zf8 C ν dp cur fr b := by
 refine ⟨r.rest.mono h, ?_⟩
 have := r.body
 split at this
 ·rename_i e; rw [if_pos e]; exact this.mono h
 ·rename_i e; rw [if_neg e]; exact this.mono h
inductive Frs (C : Ctx) (μ : Mu) : List zav -> List Frame -> Prop
 | nil : Frs C μ [] []
 | cons {a : zav} {b : Frame} {l : List zav} {m : List Frame} : zf8 C μ l.length none a b -> Frs C μ l m -> Frs C μ (a :: l) (b :: m)
theorem Frs.monoD {l : List zav} {m : List Frame} (r : Frs C μ l m) (h : ∀ d, d < l.length -> μ.ln d ν) : Frs C ν l m := by
 induction r with
 | nil => exact .nil
 | @cons a b l m h1 h2 ih => exact .cons (h1.mono (h _ (by simp))) (ih fun d hd => h d (by simp; omega))
theorem Frs.mono {l : List zav} {m : List Frame} (r : Frs C μ l m) (h : μ.le ν) : Frs C ν l m := r.monoD fun d _ => h.ln d
theorem zhm {fr fr' : zav} {b : Frame} {v : zab} {v' : Value} {cur : Option zai} (r : zf8 C μ dp none fr b) (h : zcr fr v = some fr') (hv : zaq μ v v') : zf8 C μ dp cur fr' (b.finish v') := by
 obtain ⟨todo, tm, R⟩ := fr
 unfold zcr at h
 cases todo with
 | nil => cases h
 | cons x k =>
  simp only [zar] at h; split at h
  case isFalse => cases h
  rename_i hm; have body := r.body
  rw [if_pos hm] at body; have rest := r.rest
  obtain ⟨fn, btmps, btodo, bdefers, bmode, bkind, bround⟩ := b
  simp only at body rest
  cases body with
  | plain a t =>
   cases a with
   | cons i l =>
    cases i with
    | ops all i hi =>
     simp only [zuk] at h; unfold zzfs at h; split at h
     case h_2 => cases h
     rename_i o rest' ho
     cases h; obtain ⟨h1, h2⟩ := zfj ho.symm
     have hlt : i < all.size := by have := (yad.1 h1).1; simpa using this
     have hr : (List.range all.size).drop i = i :: (List.range all.size).drop (i + 1) := by
      rw [yam (by simpa using hlt)]; simp
     have ho2 : all[i]? = some o := by simpa using h1
     have e : ∀ k', Frame.finish ⟨fn, btmps, .inRegion all ((List.range all.size).drop i) :: k', bdefers, bmode, bkind, bround⟩ v' = ⟨fn, (Act.put ⟨btmps, bdefers⟩ o.dst v').tmps, .inRegion all ((List.range all.size).drop (i + 1)) :: k', bdefers, bmode, bkind, bround⟩ := by
      intro k'; simp only [Frame.finish, hr, ho2, Option.bind_some]; unfold Act.put
      cases o.dst <;> rfl
     rw [e]; refine ⟨⟨rest.fn, ?_, rest.defers, rest.mode, rest.kind, rest.round⟩, ?_⟩
     ·exact (t.put (ds := bdefers) (dst := o.dst) hv).1
     ·rw [if_pos hm]
      rw [h2]; exact .plain (.cons (.ops all (i + 1) hlt) l) (t.put hv)
    | inRange l' i hl =>
     cases h; refine ⟨⟨rest.fn, rest.size, rest.defers, rest.mode, rest.kind, rest.round⟩, ?_⟩
     simp only [Frame.finish]; rw [if_pos hm]; exact .plain (.cons (.endRange l' i hl) l) t
    | beginRound =>
     cases h; refine ⟨⟨rest.fn, rest.size, rest.defers, rest.mode, rest.kind, rest.round⟩, ?_⟩
     simp only [Frame.finish]; rw [if_pos hm]; exact .plain l t
    | _ => cases h
  | mid a b c d e =>
   exfalso
   simp only [zuk] at h; unfold z9i at h; simp only [zad, zbh] at h; obtain ⟨o, ho, _⟩ := h
   have := (yad.1 ho).1
   simp at this
  | @wait all old _ olds st stages _ order _ _ anc D S a b b2 c d =>
   simp only [zuk] at h; unfold z9i at h; simp only [zad, zbh] at h; obtain ⟨o, ho, h⟩ := h
   cases h; have ho2 : all[st.heavy]? = some o := by simpa using ho
   obtain ⟨_, _, D1, D2, h1, h2, h3⟩ := zgt b b2
   obtain ⟨r1, r2⟩ := zza2 (ds := bdefers) h1 ho2 a c hv
   have e : ∀ k', Frame.finish ⟨fn, btmps, .inRegion all (st.heavy :: order) :: k', bdefers, bmode, bkind, bround⟩ v' = ⟨fn, (Act.put ⟨btmps, bdefers⟩ o.dst v').tmps, .inRegion all order :: k', bdefers, bmode, bkind, bround⟩ := by
    intro k'; simp only [Frame.finish, ho2, Option.bind_some]; unfold Act.put
    cases o.dst <;> rfl
   rw [e]; refine ⟨⟨rest.fn, r1.size, rest.defers, rest.mode, rest.kind, rest.round⟩, ?_⟩
   rw [if_pos hm]; exact .mid r1 h2 h3 r2 d
def zb2 (P : Program) (C : Ctx) (B N : Nat) (μ : Mu) (base : List Frame) (m : Machine) (w : World) : zdr -> Prop
 | .next s => ∃ μ' b cs w', Steps P m (lone b (cs ++ base) w') /\ μ.lw μ' /\ Below N w w' /\ zb0 B N μ' s.H w' /\ zf8 C μ' s.cs.length (some s.H) s.fr b /\ Frs C μ' s.cs cs
 | .done v H => ∃ μ' b w' v', Steps P m (lone b base w') /\ μ.lw μ' /\ Below N w w' /\ zb0 B N μ' H w' /\ zaq μ' v v' /\ b.fn = C.root /\ b.leaving P w' (.returned v')
 | .fail _ => True
theorem zb2.of_steps {base : List Frame} {m m1 : Machine} {o : zdr} {w w1 : World} (hs : Steps P m m1) (hm : μ.lw ν) (hb : Below N w w1) (h : zb2 P C B N ν base m1 w1 o) : zb2 P C B N μ base m w o := by
 cases o with
 | fail => exact trivial
 | next s =>
  obtain ⟨μ', b, cs, w', h1, h2, h3, h4⟩ := h
  exact ⟨μ', b, cs, w', hs.trans h1, fun a i k => h2 a i (hm a i k), hb.trans h3, h4⟩
 | done v H =>
  obtain ⟨μ', b, w', v', h1, h2, h3, h4⟩ := h
  exact ⟨μ', b, w', v', hs.trans h1, fun a i k => h2 a i (hm a i k), hb.trans h3, h4⟩
theorem zzdz {b : Frame} (h : b.mode = .run) : b.atR ⟨b.tmps, b.defers⟩ b.todo = b := by
 obtain ⟨fn, tmps, todo, defers, mode, kind, round⟩ := b
 simp only at h
 subst h; rfl
end
end Go.Am
namespace Go.Am
open Go Go.RowKit
structure Sim (P : Program) (C : Ctx) (B N : Nat) (I : World -> Prop) : Prop where
 tys : zdm P C
 fns : zuy P C
 prims : zri P C B N I
 base : B <= C.base
 mixed : P.follows .mixedOrders = true
 inv : ∀ w w', Below N w w' -> I w -> I w'
section
variable {P : Program} {C : Ctx} {B N : Nat} {I : World -> Prop} {μ ν : Mu} {H H' : zai} {w : World} {tm : Tm} {R : zgf} {acs : List zav} {base cs : List Frame}
variable {b : Frame} {tmps : Array Value} {ds : List Deferred} {k : List zce} {k' : List Item}
theorem zbx.todo {todo : List Item} (h : zbx μ R (b.atR ⟨tmps, ds⟩ [])) : zbx μ R (b.atR ⟨tmps, ds⟩ todo) := ⟨h.fn, h.size, h.defers, h.mode, h.kind, h.round⟩
theorem zbx.running {todo : List Item} (h : zbx μ R (b.atR ⟨tmps, ds⟩ todo)) : R.mode.running = true := by
 have := h.mode
 cases hm : R.mode with
 | run => rfl
 | _ => rw [hm] at this; exact this.elim
theorem zgr {m : Machine} {todo : List zce} {btodo : List Item} (hH : zb0 B N μ H w) (hcs : Frs C μ acs cs) (hR : zbx μ R (b.atR ⟨tmps, ds⟩ [])) (ht : zcm μ R.n tm tmps)
  (hk : zec (zbo μ) todo btodo) (hs : Steps P m (lone (b.atR ⟨tmps, ds⟩ btodo) (cs ++ base) w)) : zb2 P C B N μ base m w (xGo todo tm R acs H) :=
 ⟨μ, _, cs, w, hs, fun _ _ h => h, Below.refl _ _, hH, ⟨hR.todo, by rw [if_pos hR.running]; exact .plain hk ht⟩, hcs⟩
theorem zt5 (hH : zb0 B N μ H w) (hcs : Frs C μ acs cs) (hR : zbx μ R (b.atR ⟨tmps, ds⟩ [])) (ht : zcm μ R.n tm tmps) (hk : zec (zbo μ) k k') {m : Machine}
  (hs : step P m = .next (lone (b.atR ⟨tmps, ds⟩ k') (cs ++ base) w)) : zb2 P C B N μ base m w (zxs C k tm R acs H) :=
 zgr hH hcs hR ht hk (.one hs)
theorem zzig (hH : zb0 B N μ H w) (hcs : Frs C μ acs cs) (hR : zbx μ R (b.atR ⟨tmps, ds⟩ [])) (ht : zcm μ R.n tm tmps) (hk : zec (zbo μ) k k') {c : Operand} {x y : Code} :
  zb2 P C B N μ base (lone (b.atR ⟨tmps, ds⟩ (.code (.cond c x y) :: k')) (cs ++ base) w) w (z4r c x y C k tm R acs H) := by
 unfold z4r
 cases hc : ob (ev c (.now tm)) zab.asBool with
 | none => exact trivial
 | some t =>
  rw [zad] at hc; obtain ⟨v, hv, ht'⟩ := hc
  have : v = .bool t := by cases v <;> simp [zab.asBool] at ht'; rw [ht']
  subst this; have hr := ht.erel (ds := ds) hH.glob c _ hv
  rw [zaq] at hr; refine zgr hH hcs hR ht (.cons (.code _) hk) (.one ?_)
  rw [stepR_cond hr]
  cases t <;> rfl
theorem zzdv (hH : zb0 B N μ H w) (hcs : Frs C μ acs cs) (hR : zbx μ R (b.atR ⟨tmps, ds⟩ [])) (ht : zcm μ R.n tm tmps) (hk : zec (zbo μ) k k') {id : Nat} {c : Code} :
  zb2 P C B N μ base (lone (b.atR ⟨tmps, ds⟩ (.code (.block id c) :: k')) (cs ++ base) w) w (zzd7 id c C k tm R acs H) :=
 zgr hH hcs hR ht (.cons (.code _) (.cons (.inBlock _) hk)) (.one stepR_block)
theorem zzhc (hH : zb0 B N μ H w) (hcs : Frs C μ acs cs) (hR : zbx μ R (b.atR ⟨tmps, ds⟩ [])) (ht : zcm μ R.n tm tmps) (hk : zec (zbo μ) k k') {c : Code} :
  zb2 P C B N μ base (lone (b.atR ⟨tmps, ds⟩ (.code (.loop c) :: k')) (cs ++ base) w) w (zzf3 c C k tm R acs H) :=
 zgr hH hcs hR ht (.cons (.code _) (.cons (.inLoop _) hk)) (.one stepR_loop)
theorem z9k {id : Nat} : ∀ {k : List zce} {k' : List Item} {r : List zce}, zec (zbo μ) k k' -> zgd id k = some r -> ∃ r', exitTo id k' = some r' /\ zec (zbo μ) r r' := by
 intro k k' r h; induction h with
 | nil => intro e; cases e
 | cons a l ih =>
  intro e
  cases a with
  | inBlock i =>
   unfold zgd at e; simp only [zce.blockId] at e; rw [zar] at e; unfold exitTo; by_cases hi : i = id
   ·subst hi
    rw [if_pos (zc0.2 rfl)] at e
    cases e
    exact ⟨_, by simp, l⟩
   ·rw [if_neg fun h => hi (zc0.1 h)] at e
    obtain ⟨r', h1, h2⟩ := ih e
    exact ⟨r', by simp [hi, h1], h2⟩
  | _ =>
   unfold zgd at e; obtain ⟨r', h1, h2⟩ := ih e
   exact ⟨r', by unfold exitTo; exact h1, h2⟩
end
end Go.Am
namespace Go.Am
open Go Go.RowKit
section
variable {P : Program} {C : Ctx} {B N : Nat} {I : World -> Prop} {μ ν : Mu} {H H' : zai} {w : World} {tm : Tm} {R : zgf} {acs : List zav} {base cs : List Frame}
variable {b : Frame} {tmps : Array Value} {ds : List Deferred} {k : List zce} {k' : List Item} {all : Array Oper} {olds : List (Nat × List Nat)} {anc : Tr Nat} {old : Tm} {D : Nat} {S : Nat -> Bool} {order : List Nat}
theorem zbx.slots {tmps' : Array Value} {todo : List Item} (h : zbx μ R (b.atR ⟨tmps, ds⟩ todo)) (hs : tmps'.size = R.n) : zbx μ R (b.atR ⟨tmps', ds⟩ todo) := ⟨h.fn, hs, h.defers, h.mode, h.kind, h.round⟩
theorem zcm.cut {n : Nat} (h : zcm μ n tm tmps) : zcm μ n tm.cut tmps := by
 refine ⟨h.1, fun i v hv => h.2 i v ?_⟩
 unfold Tm.cut Tm.get at hv; unfold Tm.get; simp only [zm1] at hv ⊢
 split at hv
 ·rename_i e; rw [if_pos e]; exact hv
 ·cases hv
theorem z6v (hS : Sim P C B N I) (hH : zb0 B N μ H w) (hcs : Frs C μ acs cs) (hR : zbx μ R (b.atR ⟨tmps, ds⟩ [])) (hk : zec (zbo μ) k k')
  (hr : zcp μ all olds anc R.n old tm D S order tmps) (hst : zcj all.toList anc [] D = true) (hp : zdx C μ acs.length H all olds R.n old tm D S) :
  zb2 P C B N μ base (lone (b.atR ⟨tmps, ds⟩ (.inRegion all order :: k')) (cs ++ base) w) w (zxs C k tm R acs H) := by
 obtain ⟨tmps', μ', w', s, g, t⟩ := regEnd (b := b) (k := k') (cs := cs ++ base) (ds := ds) hS.tys hst order S tmps μ w hH hr hp
 refine zb2.of_steps s g.le g.below ?_
 exact zgr g.heap (hcs.monoD fun d hd => g.pd d (by omega)) ((hR.mono g.le).slots t.1) t (hk.mono fun _ _ r => r.mono g.le) (.refl _ _)
theorem zzie (hS : Sim P C B N I) (hH : zb0 B N μ H w) (hcs : Frs C μ acs cs) (hR : zbx μ R (b.atR ⟨tmps, ds⟩ [])) (ht : zcm μ R.n tm tmps) (hk : zec (zbo μ) k k') {id : Nat} :
  zb2 P C B N μ base (lone (b.atR ⟨tmps, ds⟩ (.code (.region id all true) :: k')) (cs ++ base) w) w (z4q id all C k tm R acs H) := by
 unfold z4q
 cases hx : ob (ob (C.plans.get R.fn) fun t => t.get id) fun p => zao (zjt all p) <| ob (zhg C H all R.n tm.cut p.olds p.first tm.cut) fun tm' => some (⟨⟨.reg all tm.cut p.olds p.stages :: k, tm', R⟩, acs, H⟩ : zjv) with
 | none => exact trivial
 | some s =>
  simp only [zad, zae] at hx; obtain ⟨p, _, hok, tm', hl, hx⟩ := hx
  cases hx; obtain ⟨anc, D, ro, h1, h2⟩ := z7i hok
  obtain ⟨r0, p0⟩ := zzbz (C := C) (H := H) (dp := acs.length) hS.mixed ro ht.cut (w.tape w.drawn (.order b.fn id))
  obtain ⟨r1, p1⟩ := zno _ _ _ hl h1 r0 p0
  exact ⟨μ, _, cs, _, .one stepR_region_draw, fun _ _ h => h, (Below.refl N w).drew, hH.drew, ⟨hR.todo, by rw [if_pos hR.running]; exact .reg r1 h2 p1 hk⟩, hcs⟩
theorem z75 (hH : zb0 B N μ H w) (hcs : Frs C μ acs cs) (hR : zbx μ R (b.atR ⟨tmps, ds⟩ [])) (hk : zec (zbo μ) k k') {st : zd4} {stages : List zd4} {D2 : Nat}
  (hr : zcp μ all olds anc R.n old tm D S order tmps) (h1 : zd8 all.toList st.lights D = some D2) (h2 : zcj all.toList anc stages D2 = true) (hw : zif C μ acs.length all olds R.n old tm D S st.again) :
  zb2 P C B N μ base (lone (b.atR ⟨tmps, ds⟩ (.inRegion all order :: k')) (cs ++ base) w) w (zpg all old olds st stages C k tm R acs H) := by
 unfold zpg
 cases hx : zao (zos C H all old olds tm st.again) (ob (zhg C H all R.n old olds st.lights tm) fun tm => some (⟨⟨.reg all old olds stages :: k, tm, R⟩, acs, H⟩ : zjv)) with
 | none => exact trivial
 | some s =>
  simp only [zad, zae] at hx; obtain ⟨ha, tm', hl, hx⟩ := hx
  cases hx; obtain ⟨r1, p1⟩ := zno _ _ _ hl h1 hr (z4v hw ha)
  exact ⟨μ, _, cs, w, .refl _ _, fun _ _ h => h, Below.refl N w, hH, ⟨hR.todo, by rw [if_pos hR.running]; exact .reg r1 h2 p1 hk⟩, hcs⟩
theorem zvu (hH : zb0 B N μ H w) (hcs : Frs C μ acs cs) (hR : zbx μ R (b.atR ⟨tmps, ds⟩ [])) (ht : zcm μ R.n tm tmps) {m : Machine} {todo : List zce} {btodo : List Item}
  (hs : Steps P m (lone { b.atR ⟨tmps, ds⟩ btodo with mode := .returning } (cs ++ base) w)) : zb2 P C B N μ base m w (.next ⟨zp2 ⟨todo, tm, R⟩ .returning, acs, H⟩) :=
 ⟨μ, _, cs, w, hs, fun _ _ h => h, Below.refl N w, hH, ⟨⟨hR.fn, hR.size, hR.defers, trivial, hR.kind, hR.round⟩, ht⟩, hcs⟩
theorem zkw {dst : Option Tmp} {v : Value} : Act.put ⟨tmps, ds⟩ dst v = ⟨(Act.put ⟨tmps, ds⟩ dst v).tmps, ds⟩ := by unfold Act.put; cases dst <;> rfl
theorem zrz {i : Nat} {rest : List Nat} {o : Oper} {v : zab} {cs : List Frame} (ho : all[i]? = some o) (hw : Region.wanted o (yielded all tmps) = true) (hd : ∀ c, o.op ≠ .defer c)
  (h : z2h P B N μ w (Act.eval ⟨tmps, ds⟩) o v H') :
  ∃ v' w' μ', step P (lone (b.atR ⟨tmps, ds⟩ (.inRegion all (i :: rest) :: k')) cs w) = .next (lone (b.atR ⟨(Act.put ⟨tmps, ds⟩ o.dst v').tmps, ds⟩ (.inRegion all rest :: k')) cs w') ∧
   μ.le μ' /\ zb0 B N μ' H' w' /\ Below N w w' /\ zaq μ' v v' := by
 obtain ⟨v', w', μ', h1, h2, h3, h4, h5⟩ := h
 refine ⟨v', w', μ', ?_, h2, h3, h4, h5⟩
 rw [<- zkw]; rcases h1 with h1 | ⟨h1, rfl⟩
 ·exact zlt (a := ⟨tmps, ds⟩) ho hw (by rw [Oper.semAt_eq _ _ _ hd]; exact h1)
 ·exact ztr (a := ⟨tmps, ds⟩) ho hw (by rw [Oper.semAt_eq _ _ _ hd]; exact h1)
theorem zpt {i : Nat} {rest : List Nat} {o : Oper} {f : FuncId} {args : Array Value} {cs : List Frame} {w' : World} (ho : all[i]? = some o) (hw : Region.wanted o (yielded all tmps) = true) (hd : ∀ c, o.op ≠ .defer c)
  (h : (execOp (Act.eval ⟨tmps, ds⟩) o).run P w = .ok (.enter f args) w') :
  step P (lone (b.atR ⟨tmps, ds⟩ (.inRegion all (i :: rest) :: k')) cs w) = .next (lone (Frame.enter P f args .normal) (b.atR ⟨tmps, ds⟩ (.inRegion all (i :: rest) :: k') :: cs) w') :=
 step_lone_go (by
  rw [stepGR_op (a := ⟨tmps, ds⟩) ho hw, Oper.semAt_eq _ _ _ hd]
  simp [stepG.apply, Sem.runT_eq, h, Frame.atR])
theorem zta {i : Nat} {rest : List Nat} {o : Oper} {f : FuncId} {args : Array Value} {cs : List Frame} {v : zab} (ho : all[i]? = some o) (hw : Region.wanted o (yielded all tmps) = true) (hd : ∀ c, o.op ≠ .defer c)
  (h : (execOp (Act.eval ⟨tmps, ds⟩) o).run P w = .ok (.enter f args) w) (hc : Calls P f args w fun e w' => ∃ v', e = .returned v' /\ zaq μ v v' /\ Below w.heap.size w w') :
  ∃ v' w', Steps P (lone (b.atR ⟨tmps, ds⟩ (.inRegion all (i :: rest) :: k')) cs w) (lone (b.atR ⟨(Act.put ⟨tmps, ds⟩ o.dst v').tmps, ds⟩ (.inRegion all rest :: k')) cs w') /\ zaq μ v v' /\ Below w.heap.size w w' := by
 obtain ⟨e, w', fr, ⟨v', rfl, h1, h2⟩, h3, _, h5⟩ := hc (b.atR ⟨tmps, ds⟩ (.inRegion all (i :: rest) :: k') :: cs)
 refine ⟨v', w', ?_, h1, h2⟩
 refine .head (zpt ho hw hd h) (Steps.trans h3 (.one ?_))
 rw [step_leave_returned h5, Frame.finish_atR, ho, <- zkw]; rfl
theorem zb0.below {w' : World} (hH : zb0 B N μ H w) (hb : Below w.heap.size w w') : zb0 B N μ H w' := by
 refine ⟨hH.base, hH.glob, hH.low, hH.next, Nat.le_trans hH.size hb.size, hH.fresh, fun a x i hx h1 => ?_, fun a i ha hi => ?_, hH.inj, hH.pnd⟩
 ·obtain ⟨o, h2, h3⟩ := hH.blk a x i hx h1
  have hlt : i.b < w.heap.size := (yaf.1 h2).1
  exact ⟨o, by rw [hb.block _ hlt]; exact h2, h3⟩
 ·obtain ⟨h1, h2, h3⟩ := hH.own a i ha hi
  exact ⟨h1, Nat.lt_of_lt_of_le h2 hb.size, h3⟩
theorem zcm.wanted {n : Nat} (R : zcm μ n tm tmps) {o : Oper} {w : Bool} (h : zbd o.guard all tm = some w) : Region.wanted o (yielded all tmps) = w := by
 unfold zbd z4w at h; unfold Region.wanted
 cases hg : o.guard with
 | none => rw [hg] at h; cases h; rfl
 | some jw =>
  obtain ⟨j, want⟩ := jw
  rw [hg] at h; simp only [zu3, zad, zbh] at h; obtain ⟨d, ⟨u, hu, hud⟩, v, hv, h⟩ := h
  have hu' : all[j]? = some u := by simpa using hu
  have hy : yielded all tmps j = match tmps[d]? with | some (.bool b) => some b | _ => none := by
   unfold yielded; rw [hu']; simp [hud]
   rfl
  simp only []; rw [hy]; have rel := R.2 d v hv
  by_cases hd : d < n
  ·have hs : d < tmps.size := by rw [R.1]; exact hd
   have e1 : tmps[d]? = some (tmps.getD d undef) := by simp [Array.getD, hs]
   rw [e1]; generalize tmps.getD d undef = x at rel
   cases hb : v.asBool with
   | some b =>
    rw [hb] at h; have : v = .bool b := by cases v <;> simp [zab.asBool] at hb; rw [hb]
    rw [this, zaq] at rel; subst rel; simp only [Option.some.injEq] at h; rw [<- h, zon]
    cases b <;> cases want <;> rfl
   | none =>
    rw [hb] at h
    cases h
    cases x with
    | bool b => rw [zu4 rel] at hb; cases hb
    | _ => rfl
  ·have e1 : tmps[d]? = none := by simp [R.1]; omega
   rw [e1]; rw [zk0 (by rw [R.1]; omega)] at rel
   cases hb : v.asBool with
   | some b =>
    have : v = .bool b := by cases v <;> simp [zab.asBool] at hb; rw [hb]
    rw [this, zaq] at rel
    cases rel
   | none => rw [hb] at h; cases h; rfl
theorem zyo {fr : zav} {c : Frame} {w' : World} {v : zab} {v' : Value} {m : Machine} (hw : zf8 C μ acs.length none fr c) (hcs : Frs C μ acs cs) (hm : μ.le ν) (hH : zb0 B N ν H' w') (hb : Below N w w') (hv : zaq ν v v')
  (hs : Steps P m (lone (c.finish v') (cs ++ base) w')) : zb2 P C B N μ base m w (zzgu v H' C fr acs H) := by
 unfold zzgu
 cases hx : ob (zcr fr v) fun fr => some (⟨fr, acs, H'⟩ : zjv) with
 | none => exact trivial
 | some s =>
  rw [zad] at hx; obtain ⟨fr', hf, hx⟩ := hx
  cases hx; exact ⟨ν, _, cs, w', hs, hm, hb, hH, zhm (hw.mono hm) hf hv, hcs.mono hm⟩
theorem zk2 {dp : Nat} (hF : zuy P C) {f : Nat} {args : List zab} {args' : Array Value} {d : Bool} {g : zav} {cur : Option zai} (h : zeo C f args d = some g) (hl : zby μ args args'.toList) :
  zf8 C μ dp cur g (Frame.enter P f args' (if d then .deferred else .normal)) /\ ∃ fn, C.fns.get f = some fn /\ fn.body.isSome = true := by
 unfold zeo at h; simp only [zad, zae, yac, zj2] at h; obtain ⟨fn, hfn, c, hc, k, hk, ⟨h1, h2⟩, h3⟩ := h
 cases h3; obtain ⟨h4, _⟩ := hF f fn hfn
 have hsz : args'.size = args.length := by have := hl.length; simpa using this
 rw [zbb] at h1 h2; have size : (Frame.enter P f args' (if d then .deferred else .normal)).tmps.size = fn.ntmps := by
  simp only [Frame.enter, h4, Option.map_some, Option.getD_some, Array.size_append, Array.size_replicate]; omega
 refine ⟨⟨⟨rfl, size, .nil, trivial, rfl, trivial⟩, ?_⟩, fn, hfn, by rw [hc]; rfl⟩
 show zdy C μ dp fn.ntmps cur [.code c] ⟨k, Tr.ofList args, []⟩ (Frame.enter P f args' (if d then .deferred else .normal)).todo (Frame.enter P f args' (if d then .deferred else .normal)).tmps
 have todo : (Frame.enter P f args' (if d then .deferred else .normal)).todo = [.code c] := by simp [Frame.enter, h4, hc]
 rw [todo]; refine .plain (.cons (.code c) .nil) ⟨size, fun i v hv => ?_⟩
 unfold Tm.get at hv; simp only [zm1] at hv; split at hv
 ·rw [Tr.get_ofList] at hv
  obtain ⟨x, hx, hr⟩ := hl.get hv
  have hi : i < args'.size := by have := (yad.1 hx).1; simpa using this
  have : (Frame.enter P f args' (if d then .deferred else .normal)).tmps.getD i undef = x := by
   simp only [Frame.enter, Array.getD_eq_getD_getElem?]; rw [Array.getElem?_append_left hi]; have : args'[i]? = some x := by simpa using hx
   rw [this]; rfl
  rw [this]; exact hr
 ·cases hv
theorem z62 (hF : zuy P C) {fr : zav} {c : Frame} {f : Nat} {args : List zab} {m : Machine} (hw : zf8 C μ acs.length none fr c) (hcs : Frs C μ acs cs) (hH : zb0 B N μ H w)
  (hs : ∀ fn, C.fns.get f = some fn -> fn.body.isSome = true -> ∃ args', zby μ args args'.toList /\ Steps P m (lone (Frame.enter P f args' .normal) (c :: (cs ++ base)) w)) :
  zb2 P C B N μ base m w (zvw f args C fr acs H) := by
 unfold zvw
 cases hx : zeo C f args false with
 | none => exact trivial
 | some g =>
  obtain ⟨fn, h1, h2⟩ : ∃ fn, C.fns.get f = some fn /\ fn.body.isSome = true := by
   unfold zeo at hx; simp only [zad] at hx; obtain ⟨fn, hfn, c, hc, _⟩ := hx
   exact ⟨fn, hfn, by rw [hc]; rfl⟩
  obtain ⟨args', h3, h4⟩ := hs fn h1 h2
  exact ⟨μ, _, c :: cs, w, h4, fun _ _ h => h, Below.refl N w, hH, (zk2 hF hx h3).1, .cons hw hcs⟩
end
end Go.Am
namespace Go.Am
open Go Go.RowKit
theorem zs1 : ∀ (l : List Oper) (t : Tr zab) (i : Nat) (v : zab), (zs6 l t).get i = some v -> t.get i = some v /\ ∀ o ∈ l, o.dst ≠ some i := by
 intro l; induction l with
 | nil => intro t i v h; exact ⟨h, fun _ ho => by cases ho⟩
 | cons o l ih =>
  intro t i v h; unfold zs6 at h
  cases hd : o.dst with
  | none =>
   rw [hd] at h; obtain ⟨h1, h2⟩ := ih t i v h
   refine ⟨h1, fun u hu => ?_⟩
   rcases yat.1 hu with rfl | hu
   ·rw [hd]; simp
   ·exact h2 u hu
  | some j =>
   rw [hd] at h; obtain ⟨h1, h2⟩ := ih _ i v h
   rw [Tr.get_del] at h1; split at h1
   ·cases h1
   ·rename_i e
    refine ⟨h1, fun u hu => ?_⟩
    rcases yat.1 hu with rfl | hu
    ·rw [hd]; exact fun k => e (Option.some.inj k).symm
    ·exact h2 u hu
theorem zcp.left {μ : Mu} {all : Array Oper} {olds : List (Nat × List Nat)} {anc : Tr Nat} {n : Nat} {old tm : Tm} {D : Nat} {S : Nat -> Bool} {order : List Nat} {tmps : Array Value} (R : zcp μ all olds anc n old tm D S order tmps) :
  zcm μ n ⟨tm.k, zs6 all.toList tm.v, []⟩ tmps := by
 refine ⟨R.size, fun t v hv => ?_⟩
 unfold Tm.get at hv; simp only [zm1] at hv; split at hv
 case isFalse => cases hv
 rename_i hk; obtain ⟨h1, h2⟩ := zs1 _ _ _ _ hv
 have hv : tm.get t = some v := by unfold Tm.get; simp only [zm1]; rw [if_pos hk]; exact h1
 have hw : ∀ (i : Nat) (o : Oper), all[i]? = some o -> o.dst = some t -> False := fun i o ho hd => h2 o (by
  have : all.toList[i]? = some o := by simpa using ho
  exact List.mem_of_getElem? this) hd
 by_cases hn : t < n
 ·have k := R.keep t hn fun i o a b => (hw i o a b).elim
  exact R.past t v hn (fun i o a b => (hw i o a b).elim) (by rw [<- k]; exact hv)
 ·rw [zk0 (by rw [R.size]; omega)]
  exact R.big t v (by omega) (.inl hv)
theorem zdy.left {C : Ctx} {μ : Mu} {dp n : Nat} {cur : Option zai} {todo : List zce} {tm : Tm} {btodo : List Item} {tmps : Array Value} (h : zdy C μ dp n cur todo tm btodo tmps) : zcm μ n (zwd todo tm) tmps := by
 cases h with
 | plain a t =>
  cases a with
  | nil => exact t
  | cons x l => cases x <;> exact t
 | reg a _ _ _ => exact a.left
 | mid a _ _ _ _ => exact a.left
 | wait a _ _ _ _ => exact a.left
theorem zec.append {α β : Type} {R : α -> β -> Prop} {l l' : List α} {m m' : List β} (h : zec R l m) (h' : zec R l' m') : zec R (l ++ l') (m ++ m') := by
 induction h with
 | nil => exact h'
 | cons a _ ih => exact .cons a ih
theorem zcm.left {μ : Mu} {n : Nat} {tm : Tm} {tmps : Array Value} (h : zcm μ n tm tmps) (todo : List zce) : zcm μ n (zwd todo tm) tmps := by
 unfold zwd; split
 ·refine ⟨h.1, fun t v hv => h.2 t v ?_⟩
  unfold Tm.get at hv ⊢
  simp only [zm1] at hv ⊢
  split at hv
  ·rename_i e; rw [if_pos e]; exact (zs1 _ _ _ _ hv).1
  ·cases hv
 ·exact h
theorem z02 {C : Ctx} {μ : Mu} {dp : Nat} {cur cur' : Option zai} {fr : zav} {b : Frame} {l : List zov} {l' : List PanicEntry} (h : zf8 C μ dp cur fr b) (hl : zec (zh9 μ) l l') : zf8 C μ dp cur' (z04 fr l) (b.raise l') := by
 have t : zcm μ fr.R.n (zwd fr.todo fr.tm) b.tmps := by
  have := h.body
  split at this
  ·exact this.left
  ·exact this.left _
 have r := h.rest
 obtain ⟨todo, tm, fn, n, defers, mode, deferred, round⟩ := fr
 obtain ⟨bfn, btmps, btodo, bdefers, bmode, bkind, bround⟩ := b
 have m := r.mode
 cases mode <;> cases bmode <;> first | exact m.elim | skip
 ·exact ⟨⟨r.fn, r.size, r.defers, hl, r.kind, r.round⟩, t⟩
 ·exact ⟨⟨r.fn, r.size, r.defers, hl, r.kind, r.round⟩, t⟩
 ·refine ⟨⟨r.fn, r.size, r.defers, ?_, r.kind, r.round⟩, t⟩
  show zec (zh9 μ) (ziu l _) _
  rw [zcl]; exact hl.append m
end Go.Am
namespace Go.Am
open Go Go.RowKit
section
variable {P : Program} {C : Ctx} {B N : Nat} {I : World -> Prop} {μ ν : Mu} {H H' : zai} {w : World} {tm : Tm} {R : zgf} {acs : List zav} {base cs : List Frame}
variable {b : Frame} {tmps : Array Value} {ds : List Deferred} {k : List zce} {k' : List Item} {all : Array Oper}
theorem z61 {fr : zav} {c : Frame} {v : zab} {v' : Value} {m : Machine} {cur : Option zai} (hw : zf8 C μ acs.length cur fr c) (hcs : Frs C μ acs cs) (hH : zb0 B N μ H w) (hv : zaq μ v v')
  (hs : Steps P m (lone (c.raise [{ v := v', recovered := false }]) (cs ++ base) w)) : zb2 P C B N μ base m w (zzeq v C fr acs H) :=
 ⟨μ, _, cs, w, hs, fun _ _ h => h, Below.refl N w, hH, z02 hw (.cons ⟨hv, rfl, rfl⟩ .nil), hcs⟩
theorem zyb {i : Nat} {rest : List Nat} {o : Oper} {v : Value} {cs : List Frame} {w' : World} (ho : all[i]? = some o) (hw : Region.wanted o (yielded all tmps) = true) (hd : ∀ c, o.op ≠ .defer c)
  (h : (execOp (Act.eval ⟨tmps, ds⟩) o).run P w = .halt (.panic v) w') :
  step P (lone (b.atR ⟨tmps, ds⟩ (.inRegion all (i :: rest) :: k')) cs w) = .next (lone ((b.atR ⟨tmps, ds⟩ (.inRegion all (i :: rest) :: k')).raise [{ v, recovered := false }]) cs w') :=
 step_lone_go (by
  rw [stepGR_op (a := ⟨tmps, ds⟩) ho hw, Oper.semAt_eq _ _ _ hd]
  simp [stepG.apply, Sem.runT_eq, h])
theorem zkd (hH : zb0 B N μ H w) {l : Nat} {r : z4j} (h : zju H l = some r) {i : BI} (h4 : μ l = some i) : B <= l /\ ∃ r', H.t.get l = some (.loop r) /\ w.heap[i.b]? = some (.loop r') /\ zrl μ r r' := by
 unfold zju at h; rw [zae, zj2, zad] at h; obtain ⟨h1, x, h2, h3⟩ := h
 have : x = .loop r := by cases x <;> simp [zal.asLoop] at h3; rw [h3]
 subst this; obtain ⟨o, h5, h6⟩ := hH.blk l _ i h2 h4
 rw [zm8] at h6; obtain ⟨r', rfl, h7⟩ := h6
 refine ⟨Nat.le_of_not_lt fun hlt => ?_, r', h2, h5, h7⟩
 have := (hH.low l _ i hlt h2 h4).2.1
 cases this
theorem zhc {l : Nat} {r : Loop} (h : w.heap[l]? = some (.loop r)) : (Instr.getLoop l).run P w = .ok r w := by
 simp [Instr.getLoop, getObj, Sem.run_bind, Sem.run, h]
theorem zxh {o : Op} (h : ∃ c, o = .defer c) (C : Ctx) (e : Env) (H : zai) : (aop o).f C e H = .fail \/ ∃ d, (aop o).f C e H = .defer d := by
 obtain ⟨c, rfl⟩ := h
 show (zo9 c c.callee).f C e H = .fail \/ ∃ d, (zo9 c c.callee).f C e H = .defer d
 cases c.callee with
 | value f =>
  show zzeo (ob (zfc f c.args e) fun p => some (.defer ⟨some p.1, 0, ziu p.2.1 p.2.2⟩)) = .fail \/ ∃ d, zzeo (ob (zfc f c.args e) fun p => some (.defer ⟨some p.1, 0, ziu p.2.1 p.2.2⟩)) = .defer d
  cases zfc f c.args e with
  | none => exact .inl rfl
  | some p => exact .inr ⟨_, rfl⟩
 | _ => exact .inl rfl
theorem zvq {n : Nat} : ∀ (ps : List Nat) (args : List zab) (tm tm' : Tm) (args' : List Value) (tmps : Array Value), zku n ps args tm = some tm' -> zby μ args args' -> zcm μ n tm tmps →
  args'.length = ps.length /\ zcm μ n tm' ((ps.zip args').foldl (fun tmps x => tmps.setIfInBounds x.1 x.2) tmps) := by
 intro ps; induction ps with
 | nil =>
  intro args tm tm' args' tmps h hl ht
  cases args with
  | nil => rw [zby] at hl; subst hl; cases h; exact ⟨rfl, ht⟩
  | cons a as => cases h
 | cons p ps ih =>
  intro args tm tm' args' tmps h hl ht
  cases args with
  | nil => cases h
  | cons a as =>
   rw [zby] at hl; obtain ⟨v, r, rfl, hv, hl⟩ := hl
   have := ih as _ _ r (tmps.setIfInBounds p v) h hl (ht.put (ds := []) (dst := some p) hv)
   exact ⟨by simp [this.1], this.2⟩
theorem zya {i : Nat} {rest : List Nat} {o : Oper} {cs : List Frame} {l : Nat} {f : FuncId} {t : Array Value} {as bd : Code} {w' : World} (ho : all[i]? = some o) (hw : Region.wanted o (yielded all tmps) = true) (hd : ∀ c, o.op ≠ .defer c)
  (h : (execOp (Act.eval ⟨tmps, ds⟩) o).run P w = .ok (.round l f t as bd) w') :
  step P (lone (b.atR ⟨tmps, ds⟩ (.inRegion all (i :: rest) :: k')) cs w) = .next (lone (Frame.round l f t as bd .normal) (b.atR ⟨tmps, ds⟩ (.inRegion all (i :: rest) :: k') :: cs) w') :=
 step_lone_go (by
  rw [stepGR_op (a := ⟨tmps, ds⟩) ho hw, Oper.semAt_eq _ _ _ hd]
  simp [stepG.apply, Sem.runT_eq, h, Frame.atR])
theorem zyc {i : Nat} {rest : List Nat} {o : Oper} {cs : List Frame} {d : Deferred} {w' : World} (ho : all[i]? = some o) (hw : Region.wanted o (yielded all tmps) = true) (hb : b.roundOf = none)
  (h : (execOp (Act.eval ⟨tmps, ds⟩) o).run P w = .ok (.defer d) w') :
  step P (lone (b.atR ⟨tmps, ds⟩ (.inRegion all (i :: rest) :: k')) cs w) = .next (lone ((b.atR ⟨tmps, d :: ds⟩ (.inRegion all (i :: rest) :: k')).finish undef) cs w') :=
 step_lone_go (by
  rw [stepGR_op (a := ⟨tmps, ds⟩) ho hw, hb, Oper.semAt_none]
  simp [stepG.apply, Sem.runT_eq, h, Frame.atR])
theorem zts {i : Nat} {rest : List Nat} {o : Oper} {cs : List Frame} {w' : World} (ho : all[i]? = some o) (hw : Region.wanted o (yielded all tmps) = true) (hd : ∀ c, o.op ≠ .defer c) (hb : b.roundOf = none)
  (h : (execOp (Act.eval ⟨tmps, ds⟩) o).run P w = .ok .recover w') :
  step P (lone (b.atR ⟨tmps, ds⟩ (.inRegion all (i :: rest) :: k')) cs w) = .next (match tryRecover (b.atR ⟨tmps, ds⟩ (.inRegion all (i :: rest) :: k')) cs with
   | some (v, cs) => lone ((b.atR ⟨tmps, ds⟩ (.inRegion all (i :: rest) :: k')).finish v) cs w'
   | none => lone ((b.atR ⟨tmps, ds⟩ (.inRegion all (i :: rest) :: k')).finish .nilIface) cs w') := by
 have e : (stepG P true { frame := b.atR ⟨tmps, ds⟩ (.inRegion all (i :: rest) :: k'), callers := cs, status := .running, dying := none } w).bare = match tryRecover (b.atR ⟨tmps, ds⟩ (.inRegion all (i :: rest) :: k')) cs with
   | some (v, cs) => .go { frame := (b.atR ⟨tmps, ds⟩ (.inRegion all (i :: rest) :: k')).finish v, callers := cs, status := .running, dying := none } w'
   | none => .go { frame := (b.atR ⟨tmps, ds⟩ (.inRegion all (i :: rest) :: k')).finish .nilIface, callers := cs, status := .running, dying := none } w' := by
  rw [stepGR_op (a := ⟨tmps, ds⟩) ho hw, Oper.semAt_eq _ _ _ hd]
  have hb' : (b.atR ⟨tmps, ds⟩ (.inRegion all (i :: rest) :: k')).roundOf = none := hb
  simp only [stepG.apply, Sem.runT_eq, h, GStep.bare_after, hb', if_true]
  cases tryRecover (b.atR ⟨tmps, ds⟩ (.inRegion all (i :: rest) :: k')) cs with
  | none => rfl
  | some p => obtain ⟨v, c⟩ := p; rfl
 cases ht : tryRecover (b.atR ⟨tmps, ds⟩ (.inRegion all (i :: rest) :: k')) cs with
 | none => rw [ht] at e; exact step_lone_go e
 | some p => obtain ⟨v, c⟩ := p; rw [ht] at e; exact step_lone_go e
theorem z6z {fr : zav} {c : Frame} {l : Nat} {i : BI} {args : List zab} {args' : Array Value} {m : Machine} (hw : zf8 C μ acs.length none fr c) (hcs : Frs C μ acs cs) (hH : zb0 B N μ H w) (hi : μ l = some i) (hl : zby μ args args'.toList)
  (hs : ∀ f t as bd, (Instr.yield i.b args').run P w = .ok (.round i.b f t as bd) w -> Steps P m (lone (Frame.round i.b f t as bd .normal) (c :: (cs ++ base)) w)) : zb2 P C B N μ base m w (z60 l args C fr acs H) := by
 unfold z60
 cases hx : ob (zju H l) fun r => ob (zku r.n r.params args r.tm) fun tm => some (⟨⟨[.code r.assign, .beginRound, .code r.body], tm, ⟨r.fn, r.n, [], .run, false, some l⟩⟩, fr :: acs, H⟩ : zjv) with
 | none => exact trivial
 | some s =>
  simp only [zad] at hx; obtain ⟨r, hr, tm', htm, hx⟩ := hx
  cases hx; obtain ⟨_, r', _, h3, h4⟩ := zkd hH hr hi
  obtain ⟨h5, h6⟩ := zvq r.params args r.tm tm' args'.toList r'.tmps htm hl h4.tm
  rw [<- h4.params] at h5 h6; have sz : args'.size = r'.params.size := by simpa using h5
  have e : (r'.params.zip args').foldl (fun tmps x => tmps.setIfInBounds x.1 x.2) r'.tmps = (r'.params.toList.zip args'.toList).foldl (fun tmps x => tmps.setIfInBounds x.1 x.2) r'.tmps := by
   rw [<- Array.foldl_toList, Array.toList_zip]
  rw [<- e] at h6; refine ⟨μ, _, c :: cs, w, hs r'.fn ((r'.params.zip args').foldl (fun tmps x => tmps.setIfInBounds x.1 x.2) r'.tmps) r'.assign r'.body ?_, fun _ _ h => h, Below.refl N w, hH, ?_, .cons hw hcs⟩
  ·simp only [Instr.yield, Sem.run_bind, zhc h3, Result.andThen_ok, sz]
   simp
  ·refine ⟨⟨h4.fn, h6.1, .nil, trivial, rfl, ⟨i, hi, rfl⟩⟩, ?_⟩
   show zdy C μ (acs.length + 1) r.n _ _ _ [.code r'.assign, .beginRound, .code r'.body] _
   rw [h4.assign, h4.body]; exact .plain (.cons (.code _) (.cons .beginRound (.cons (.code _) .nil))) h6
theorem ztc (hS : Sim P C B N I) (hH : zb0 B N μ H w) (hcs : Frs C μ acs cs) {fr : zav} {i : Nat} {rest : List Nat} {o : Oper} {r : ztd}
  (hfr : zf8 C μ acs.length none fr (b.atR ⟨tmps, ds⟩ (.inRegion all (i :: rest) :: k'))) (ho : all[i]? = some o) (hw : Region.wanted o (yielded all tmps) = true)
  (hdef : (∃ c, o.op = .defer c) -> r = .fail \/ ∃ d, r = .defer d) (h : zu0 P C B N μ H w (Act.eval ⟨tmps, ds⟩) o r) :
  zb2 P C B N μ base (lone (b.atR ⟨tmps, ds⟩ (.inRegion all (i :: rest) :: k')) (cs ++ base) w) w (zn2 r C fr acs H) := by
 have hd : (∀ d, r ≠ .defer d) -> r ≠ .fail -> ∀ c, o.op ≠ .defer c := by
  intro h1 h2 c e; rcases hdef ⟨c, e⟩ with h | ⟨d, h⟩
  ·exact h2 h
  ·exact h1 d h
 cases r with
 | fail => exact trivial
 | val v H' =>
  have hd := hd (fun _ h => by cases h) (fun h => by cases h)
  rcases h with h | ⟨rfl, f, args', h1, h2⟩
  ·obtain ⟨v', w', μ', s, hm, hH', hb, hv⟩ := zrz (b := b) (k' := k') (rest := rest) (cs := cs ++ base) ho hw hd h
   refine zyo (H := H) hfr hcs hm hH' hb hv ?_
   rw [Frame.finish_atR, ho, Option.bind_some, zkw]; exact .one s
  ·obtain ⟨v', w', s, hv, hb⟩ := zta (b := b) (k' := k') (rest := rest) (cs := cs ++ base) ho hw hd h1 h2
   refine zyo (H := H') hfr hcs μ.le_refl (hH.below hb) (hb.mono hH.size) hv ?_
   rw [Frame.finish_atR, ho, Option.bind_some, zkw]; exact s
 | enter f args =>
  have hd := hd (fun _ h => by cases h) (fun h => by cases h)
  exact z62 hS.fns hfr hcs hH fun fn h1 h2 => by
   obtain ⟨args', h3, h4⟩ := h fn h1 h2
   exact ⟨args', h4, .one (zpt ho hw hd h3)⟩
 | round l args =>
  have hd := hd (fun _ h => by cases h) (fun h => by cases h)
  obtain ⟨i0, args', hi, hl, hrun⟩ := h
  exact z6z hfr hcs hH hi hl fun f t as bd hy => .one (zya ho hw hd (by rw [hrun]; exact hy))
 | defer d =>
  obtain ⟨_, d', h1, h2⟩ := h
  show zb2 P C B N μ base _ w (z63 d C fr acs H)
  unfold z63
  cases hr : fr.R.roundOf with
  | some l => exact trivial
  | none =>
   have hb : b.roundOf = none := by
    have := hfr.rest.round
    rw [hr] at this; change zh8 μ none b.roundOf at this
    cases hb : b.roundOf with
    | none => rfl
    | some l => rw [hb] at this; exact this.elim
   simp only []
   cases hf : zcr fr zbr with
   | none => exact trivial
   | some g =>
    have := zhm (cur := some H) hfr hf zkr
    refine ⟨μ, _, cs, w, .one (zyc ho hw hb h1), fun _ _ h => h, Below.refl N w, hH, ?_, hcs⟩
    rw [Frame.finish_atR] at this ⊢
    rw [zkw] at this ⊢
    have e : ∀ x, (Act.put ⟨tmps, d' :: ds⟩ x undef).tmps = (Act.put ⟨tmps, ds⟩ x undef).tmps := fun x => by cases x <;> rfl
    rw [e]; exact ⟨⟨this.rest.fn, this.rest.size, .cons h2 this.rest.defers, this.rest.mode, this.rest.kind, this.rest.round⟩, this.body⟩
 | panic v =>
  have hd := hd (fun _ h => by cases h) (fun h => by cases h)
  obtain ⟨v', h1, h2⟩ := h
  exact z61 hfr hcs hH h2 (.one (zyb ho hw hd h1))
 | recover =>
  have hd := hd (fun _ h => by cases h) (fun h => by cases h)
  show zb2 P C B N μ base _ w (zt0 C fr acs H)
  unfold zt0
  cases hr : fr.R.roundOf with
  | some l => exact trivial
  | none =>
   have hb : b.roundOf = none := by
    have := hfr.rest.round
    rw [hr] at this; change zh8 μ none b.roundOf at this
    cases hb : b.roundOf with
    | none => rfl
    | some l => rw [hb] at this; exact this.elim
   cases hk : fr.R.deferred with
   | false => exact trivial
   | true =>
    have hkind : b.kind = .deferred := by have := hfr.rest.kind; rw [hk] at this; exact this
    cases hcs with
    | nil => exact trivial
    | @cons c b1 acs1 cs1 hc hcs1 =>
     have st := zts (P := P) (b := b) (k' := k') (rest := rest) (cs := b1 :: (cs1 ++ base)) ho hw hd hb h
     have hm := hc.rest.mode
     have tr : ∀ todo, tryRecover (b.atR ⟨tmps, ds⟩ todo) (b1 :: (cs1 ++ base)) = match b1.mode with
       | .panicking ({ v, recovered := false, goexit := false } :: older) => some (v, { b1 with mode := .panicking ({ v, recovered := true } :: older) } :: (cs1 ++ base))
       | _ => none := by
      intro todo; obtain ⟨bfn, btmps, btodo, bdefers, bmode, bkind, bround⟩ := b
      simp only at hkind
      subst hkind; rfl
     rw [tr] at st; simp only []
     cases hcm : c.R.mode with
     | run =>
      rw [hcm] at hm
      cases hbm : b1.mode with
      | run =>
       rw [hbm] at st; simp only []
       cases hf : zcr fr .niliface with
       | none => exact trivial
       | some g => exact ⟨μ, _, b1 :: cs1, w, .one st, fun _ _ h => h, Below.refl N w, hH, zhm hfr hf (by rw [zaq]), .cons hc hcs1⟩
      | _ => rw [hbm] at hm; exact hm.elim
     | returning =>
      rw [hcm] at hm
      cases hbm : b1.mode with
      | returning =>
       rw [hbm] at st; simp only []
       cases hf : zcr fr .niliface with
       | none => exact trivial
       | some g => exact ⟨μ, _, b1 :: cs1, w, .one st, fun _ _ h => h, Below.refl N w, hH, zhm hfr hf (by rw [zaq]), .cons hc hcs1⟩
      | _ => rw [hbm] at hm; exact hm.elim
     | panicking ch =>
      rw [hcm] at hm
      cases hbm : b1.mode with
      | run => rw [hbm] at hm; exact hm.elim
      | returning => rw [hbm] at hm; exact hm.elim
      | panicking ch' =>
       rw [hbm] at hm st
       cases hm with
       | nil => exact trivial
       | @cons p e older older' hp hold =>
        obtain ⟨pv, pr⟩ := p
        cases pr with
        | true => exact trivial
        | false =>
         obtain ⟨ev', er, eg⟩ := e
         obtain ⟨q1, q2, q3⟩ := hp
         simp only at q1 q2 q3
         subst q2 q3
         simp only []
         cases hf : zcr fr pv with
         | none => exact trivial
         | some g =>
          have fin := zhm (cur := some H) hfr hf q1
          refine ⟨μ, _, { b1 with mode := .panicking ({ v := ev', recovered := true } :: older') } :: cs1, w, .one st, fun _ _ h => h, Below.refl N w, hH, fin, .cons ?_ hcs1⟩
          refine ⟨⟨hc.rest.fn, hc.rest.size, hc.rest.defers, .cons ⟨q1, rfl, rfl⟩ hold, hc.rest.kind, hc.rest.round⟩, ?_⟩
          have := hc.body
          rw [hcm] at this; exact this
end
end Go.Am
namespace Go.Am
open Go Go.RowKit
section
variable {P : Program} {C : Ctx} {B N : Nat} {I : World -> Prop} {μ ν : Mu} {H H' : zai} {w : World} {tm : Tm} {R : zgf} {acs : List zav} {base cs : List Frame}
variable {b : Frame} {tmps : Array Value} {ds : List Deferred} {k : List zce} {k' : List Item} {all : Array Oper}
theorem zsf {m : Option Nat} (h : zh8 μ none m) : m = none := by
 cases m with
 | none => rfl
 | some l => exact h.elim
theorem znd {l : Nat} {m : Option Nat} (h : zh8 μ (some l) m) : ∃ i, μ l = some i /\ m = some i.b := by
 cases m with
 | none => exact h.elim
 | some m => obtain ⟨i, h1, h2⟩ := h; exact ⟨i, h1, by rw [h2]⟩
theorem zjg {r : Loop} (a : Array Value) (b : TypeId) (c : Nat × Nat) : Obj.loop r ≠ .cells a b c := by intro h; cases h
theorem zqo (hH : zb0 B N μ H w) (hcs : Frs C μ acs cs) (hR : zbx μ R (b.atR ⟨tmps, ds⟩ [])) (ht : zcm μ R.n tm tmps) {todo : List zce} {btodo : List Item} {jump : Option Code}
  (h0 : b.roundOf = none -> z6u jump = true -> step P (lone (b.atR ⟨tmps, ds⟩ btodo) (cs ++ base) w) = .next (lone { b.atR ⟨tmps, ds⟩ btodo with mode := .returning } (cs ++ base) w))
  (h1 : ∀ l c rest v w', b.roundOf = some l -> b.kind = .normal -> (Instr.endRound l jump).run P w = .ok v w' -> step P (lone (b.atR ⟨tmps, ds⟩ btodo) (c :: rest) w) = .next (lone (c.finish v) rest w')) :
  zb2 P C B N μ base (lone (b.atR ⟨tmps, ds⟩ btodo) (cs ++ base) w) w (zsq jump C ⟨todo, tm, R⟩ acs H) := by
 unfold zsq; simp only []
 cases hr : R.roundOf with
 | none =>
  have hb : b.roundOf = none := by
   have := hR.round
   rw [hr] at this; exact zsf this
  cases hj : z6u jump with
  | false => exact trivial
  | true => exact zvu hH hcs hR ht (.one (h0 hb hj))
 | some l =>
  obtain ⟨i, hi, hb⟩ : ∃ i, μ l = some i /\ b.roundOf = some i.b := by
   have := hR.round
   rw [hr] at this; exact znd this
  simp only []
  cases hx : zju H l with
  | none => exact trivial
  | some r =>
   rw [zac]
   cases hcs with
   | nil => exact trivial
   | @cons c b1 acs1 cs1 hc hcs1 =>
    simp only []
    cases hd : R.deferred with
    | true => exact trivial
    | false =>
     have hkind : b.kind = .normal := by have := hR.kind; rw [hd] at this; exact this
     cases hf : zcr c (.bool jump.isNone) with
     | none => exact trivial
     | some c' =>
      obtain ⟨hl, r', hg, hw, rel⟩ := zkd hH hx hi
      have run : (Instr.endRound i.b jump).run P w = .ok (.bool jump.isNone) (World.setBlk w i.b (.loop { r' with state := if jump.isNone then .ready else .done, pending := jump })) := by
       simp only [Instr.endRound, Sem.run_bind, zhc hw, Result.andThen_ok, zg1 hw zjg, Sem.run_pure]
      refine ⟨μ, _, cs1, _, .one (h1 i.b b1 (cs1 ++ base) _ _ hb hkind run), fun _ _ h => h, zdo (hH.own l i hl hi).1, ?_, zhm hc hf (by rw [zaq]), hcs1⟩
      refine hH.upd hg hi hl ?_
      rw [zm8]; exact ⟨_, rfl, rfl, rfl, rel.fn, rel.tm, rel.params, rel.assign, rel.body, rel.defers⟩
theorem zzh {id : Nat} : ∀ {k : List zce} {k' : List Item}, zec (zbo μ) k k' -> zgd id k = none -> exitTo id k' = none := by
 intro k k' h; induction h with
 | nil => intro _; rfl
 | cons a l ih =>
  intro e
  cases a with
  | inBlock i =>
   unfold zgd at e; simp only [zce.blockId] at e; rw [zar] at e; unfold exitTo; by_cases hi : i = id
   ·subst hi
    rw [if_pos (zc0.2 rfl)] at e
    cases e
   ·rw [if_neg fun h => hi (zc0.1 h)] at e
    simp [hi, ih e]
  | _ =>
   unfold zgd at e; unfold exitTo; exact ih e
theorem zzh9 (hH : zb0 B N μ H w) (hcs : Frs C μ acs cs) (hR : zbx μ R (b.atR ⟨tmps, ds⟩ [])) (ht : zcm μ R.n tm tmps) (hk : zec (zbo μ) k k') {id : Nat} :
  zb2 P C B N μ base (lone (b.atR ⟨tmps, ds⟩ (.code (.exit id) :: k')) (cs ++ base) w) w (z4p id C k tm R acs H) := by
 unfold z4p
 cases he : zgd id k with
 | some r =>
  obtain ⟨r', h1, h2⟩ := z9k hk he
  exact zgr hH hcs hR ht h2 (.one (stepR_exit h1))
 | none =>
  exact zqo hH hcs hR ht (fun _ h => by cases h) fun l c rest v w' hb hkd hr => stepR_round_exit hb hkd (zzh hk he) hr
theorem ret_ok (hH : zb0 B N μ H w) (hcs : Frs C μ acs cs) (hR : zbx μ R (b.atR ⟨tmps, ds⟩ [])) (ht : zcm μ R.n tm tmps) :
  zb2 P C B N μ base (lone (b.atR ⟨tmps, ds⟩ (.code .ret :: k')) (cs ++ base) w) w (xRet C k tm R acs H) :=
 zqo hH hcs hR ht (fun hb _ => stepR_ret hb) fun _ _ _ _ _ hb hkd hr => stepR_round_ret hb hkd hr
theorem end_ok (hH : zb0 B N μ H w) (hcs : Frs C μ acs cs) (hR : zbx μ R (b.atR ⟨tmps, ds⟩ [])) (ht : zcm μ R.n tm tmps) :
  zb2 P C B N μ base (lone (b.atR ⟨tmps, ds⟩ []) (cs ++ base) w) w (zsq none C ⟨[], tm, R⟩ acs H) :=
 zqo hH hcs hR ht (fun hb _ => stepR_end hb) fun _ _ _ _ _ hb hkd hr => stepR_round_end hb hkd hr
theorem zlw {o : Oper} {rest : List Oper} : zli C all k R acs (o :: rest) tm H = match zbd o.guard all tm with
  | none => .fail 20
  | some false => zli C all k R acs rest (putA R.n tm o.dst zbr) H
  | some true => match ((aop o.op).f C (.now tm) H).asVal with
   | some p => zli C all k R acs rest (putA R.n tm o.dst p.1) p.2
   | none => zn2 ((aop o.op).f C (.now tm) H) C ⟨.ops all (o :: rest) :: k, tm, R⟩ acs H := by
 show (match zbd o.guard all tm with
  | some w => Bool.rec (motive := fun _ => zdr) (zli C all k R acs rest (putA R.n tm o.dst zbr) H)
     (let r := (aop o.op).f C (.now tm) H
     match r.asVal with
     | some p => zli C all k R acs rest (putA R.n tm o.dst p.1) p.2
     | none => zn2 r C ⟨.ops all (o :: rest) :: k, tm, R⟩ acs H) w
  | none => .fail 20) = _
 cases zbd o.guard all tm with
 | none => rfl
 | some w => cases w <;> rfl
theorem zsk {n i : Nat} (h : i < n) : (List.range n).drop i = i :: (List.range n).drop (i + 1) := by
 rw [yam (by simpa using h)]; simp
theorem zvt (hS : Sim P C B N I) : ∀ (rest : List Oper) (i : Nat) (tm : Tm) (H : zai) (w : World) (μ : Mu) (tmps : Array Value), rest = all.toList.drop i -> i <= all.size -> I w -> zb0 B N μ H w -> Frs C μ acs cs →
  zbx μ R (b.atR ⟨tmps, ds⟩ []) -> zcm μ R.n tm tmps -> zec (zbo μ) k k' →
  zb2 P C B N μ base (lone (b.atR ⟨tmps, ds⟩ (.inRegion all ((List.range all.size).drop i) :: k')) (cs ++ base) w) w (zli C all k R acs rest tm H) := by
 intro rest; induction rest with
 | nil =>
  intro i tm H w μ tmps hi hle hI hH hcs hR ht hk; have : all.size <= i := by
   have := congrArg List.length hi
   simp at this; omega
  rw [yau (by simpa using this)]
  exact zgr hH hcs hR ht hk (.one stepR_region_end)
 | cons o rest ih =>
  intro i tm H w μ tmps hi hle hI hH hcs hR ht hk; obtain ⟨h1, h2⟩ := zfj hi
  have hlt : i < all.size := by have := (yad.1 h1).1; simpa using this
  have ho : all[i]? = some o := by simpa using h1
  rw [zlw, zsk hlt]
  cases hw : zbd o.guard all tm with
  | none => exact trivial
  | some wn =>
   have hwn := ht.wanted (all := all) hw
   cases wn with
   | false =>
    refine zb2.of_steps (.one (zg7 ho hwn)) (fun _ _ h => h) (Below.refl N w) ?_
    rw [zkw]; have t := ht.put (ds := ds) (dst := o.dst) zkr
    exact ih (i + 1) _ _ _ _ _ h2 hlt hI hH hcs (hR.slots t.1) t hk
   | true =>
    have hop := zzfy hS.tys hS.base hS.fns hS.prims hH hI (ht.erel (ds := ds) hH.glob) o
    simp only []; generalize hr : (aop o.op).f C (.now tm) H = r at hop
    have hdef : (∃ c, o.op = .defer c) -> r = .fail \/ ∃ d, r = .defer d := fun h => by rw [<- hr]; exact zxh h _ _ _
    have hfr : zf8 C μ acs.length none ⟨.ops all (o :: rest) :: k, tm, R⟩ (b.atR ⟨tmps, ds⟩ (.inRegion all (i :: (List.range all.size).drop (i + 1)) :: k')) := by
     refine ⟨hR.todo, ?_⟩
     rw [if_pos hR.running, <- zsk hlt, hi]; exact .plain (.cons (.ops all i hle) hk) ht
    cases hv : r.asVal with
    | none => exact ztc hS hH hcs hfr ho hwn hdef hop
    | some p =>
     have : r = .val p.1 p.2 := by cases r <;> simp [ztd.asVal] at hv; rw [<- hv]
     subst this; simp only []; have hd : ∀ c, o.op ≠ .defer c := fun c e => by
      rcases hdef ⟨c, e⟩ with h | ⟨d, h⟩ <;> cases h
     rcases hop with h | ⟨he, f, args', h3, h4⟩
     ·obtain ⟨v', w', μ', s, hm, hH', hb, hv⟩ := zrz (b := b) (k' := k') (rest := (List.range all.size).drop (i + 1)) (cs := cs ++ base) ho hwn hd h
      refine zb2.of_steps (.one s) hm.f hb ?_
      have t := (ht.mono hm).put (ds := ds) (dst := o.dst) hv
      exact ih (i + 1) _ _ _ _ _ h2 hlt (hS.inv _ _ hb hI) hH' (hcs.mono hm) ((hR.mono hm).slots t.1) t (hk.mono fun _ _ r => r.mono hm)
     ·obtain ⟨v', w', s, hv, hb⟩ := zta (b := b) (k' := k') (rest := (List.range all.size).drop (i + 1)) (cs := cs ++ base) ho hwn hd h3 h4
      have hbN := hb.mono hH.size
      refine zb2.of_steps s (fun _ _ h => h) hbN ?_
      have t := ht.put (ds := ds) (dst := o.dst) hv
      rw [he]; exact ih (i + 1) _ _ _ _ _ h2 hlt (hS.inv _ _ hbN hI) (hH.below hb) hcs (hR.slots t.1) t hk
theorem zzc2 (hS : Sim P C B N I) (hI : I w) (hH : zb0 B N μ H w) (hcs : Frs C μ acs cs) (hR : zbx μ R (b.atR ⟨tmps, ds⟩ [])) (hk : zec (zbo μ) k k') {olds : List (Nat × List Nat)} {anc : Tr Nat} {old : Tm} {D : Nat} {S : Nat -> Bool} {order : List Nat} {st : zd4} {stages : List zd4} {o : Oper}
  (hr : zcp μ all olds anc R.n old tm D S order tmps) (hst : zcj all.toList anc (st :: stages) D = true) (hp : zdx C μ acs.length H all olds R.n old tm D S) (ho : all[st.heavy]? = some o) :
  zb2 P C B N μ base (lone (b.atR ⟨tmps, ds⟩ (.inRegion all order :: k')) (cs ++ base) w) w (zz8 all old olds st stages o C k tm R acs H) := by
 have hlt : st.heavy <= all.size := Nat.le_of_lt (yaf.1 ho).1
 obtain ⟨S', order', tmps', μ', w', s, g, r1, p1⟩ := reach (b := b) (k := k') (cs := cs ++ base) (ds := ds) hS.tys hst hlt order S tmps μ w hH hr hp
 refine zb2.of_steps s g.le g.below ?_
 replace hI := hS.inv _ _ g.below hI
 replace hH := g.heap
 replace hcs := hcs.monoD fun d hd => g.pd d (by omega)
 replace hR := hR.mono g.le
 replace hk : zec (zbo μ') k k' := hk.mono fun _ _ r => r.mono g.le
 unfold zz8
 cases hw : zbd o.guard all tm with
 | none => exact trivial
 | some wn =>
  obtain ⟨o', ho', hS', hb', _⟩ := r1.sched
  rw [ho] at ho'; cases ho'
  have hwn := r1.wanted ho hb' hw
  have hfr : zf8 C μ' acs.length none ⟨.reg all old olds (st :: stages) :: k, tm, R⟩ (b.atR ⟨tmps', ds⟩ (.inRegion all (st.heavy :: order') :: k')) := by
   refine ⟨(hR.slots r1.size).todo, ?_⟩
   rw [if_pos hR.running]; exact .wait r1 hst hlt (toWeak hst hlt r1 p1) hk
  cases wn with
  | false =>
   refine zyo (H := H) hfr hcs μ'.le_refl hH (Below.refl N w') zkr ?_
   rw [Frame.finish_atR, ho, Option.bind_some]; exact .one (zg7 ho hwn)
  | true =>
   have hop := zzfy hS.tys hS.base hS.fns hS.prims hH hI (r1.erel (ds := ds) hH.glob ho hS' hb') o
   exact ztc hS hH hcs hfr ho hwn (fun h => zxh h _ _ _) hop
theorem z3w (hS : Sim P C B N I) (hH : zb0 B N μ H w) (hcs : Frs C μ acs cs) (hR : zbx μ R (b.atR ⟨tmps, ds⟩ [])) (hk : zec (zbo μ) k k') {olds : List (Nat × List Nat)} {anc : Tr Nat} {old : Tm} {D : Nat} {S : Nat -> Bool} {order : List Nat} {st : zd4} {stages : List zd4}
  (hr : zcp μ all olds anc R.n old tm D S order tmps) (hst : zcj all.toList anc (st :: stages) D = true) (hp : zdx C μ acs.length H all olds R.n old tm D S) (hlt : all.size < st.heavy) :
  zb2 P C B N μ base (lone (b.atR ⟨tmps, ds⟩ (.inRegion all order :: k')) (cs ++ base) w) w (z4o all old olds st stages (st.heavy - (all.size + 1)) C k tm R acs H) := by
 obtain ⟨o, D1, D2, ho, hf, h1, h2, h3⟩ := zru hst hlt
 generalize st.heavy - (all.size + 1) = i at *
 obtain ⟨o', ho', hi, hb, hD1⟩ := zir h1
 rw [ho] at ho'; cases ho'
 unfold z4o; generalize hx : (ob (ze7 all.toList i) fun o => ob (zbd o.guard all tm) fun w => zao w (ob ((aop o.op).f C (.mixed tm old (zc1 i olds) (zb4 o.op)) H).asVal fun p =>
  ob (zhg C p.2 all R.n old olds st.lights (putA R.n tm o.dst p.1)) fun tm' => some (⟨⟨.reg all old olds stages :: k, tm', R⟩, acs, p.2⟩ : zjv))) = x
 cases x with
 | none => exact trivial
 | some x =>
  simp only [zad, zae, zbh] at hx; obtain ⟨o', ho', wn, hw, hwn, p, hv, tm', hl, hx⟩ := hx
  have : o' = o := by
   have h : all[i]? = some o' := by simpa using ho'
   rw [ho] at h; exact (Option.some.inj h).symm
  subst this; subst hwn
  cases hx; have hop : (aop o'.op).f C (zmj tm old olds i o') H = .val p.1 p.2 := by
   show (aop o'.op).f C (.mixed tm old (zc1 i olds) (zb4 o'.op)) H = _
   generalize (aop o'.op).f C (.mixed tm old (zc1 i olds) (zb4 o'.op)) H = r at hv
   cases r <;> simp [ztd.asVal] at hv
   rw [<- hv]
  obtain ⟨l, hl2⟩ : ∃ l, p.2 = za7 H l none := z3x hf hop
  have hH' : zb0 B N (μ.wait H.next (.cells (Tr.ofList l) (zbw l) none, acs.length, i)) p.2 w := by rw [hl2]; exact hH.early
  have hle : μ.lw (μ.wait H.next (.cells (Tr.ofList l) (zbw l) none, acs.length, i)) := fun _ _ h => h
  have hpd : ∀ d, μ.ln d (μ.wait H.next (.cells (Tr.ofList l) (zbw l) none, acs.length, i)) := fun d => ⟨hle, fun a x j ha => by
   show (if a = H.next then _ else μ.pd a) = _
   rw [if_neg]
   ·exact ha
   ·intro e
    have := (hH.pnd _ _ _ ha).2.1
    rw [e, (hH.fresh _ (yal _)).2] at this
    cases this⟩
  have hgrow : HM.HLe H p.2 := by
   intro b y hb; rw [hl2]; show (H.t.set H.next _).get b = some y
   rw [Tr.get_set, if_neg]
   ·exact hb
   ·intro e
    rw [e, (hH.fresh _ (yal _)).2] at hb
    cases hb
  have r1 := (hr.light (v := p.1) ho hi hb hD1).mono hle
  have p1 : zdx C (μ.wait H.next (.cells (Tr.ofList l) (zbw l) none, acs.length, i)) acs.length p.2 all olds R.n old (putA R.n tm o'.dst p.1) D1 S := by
   intro j hj hSj; rw [hD1] at hj; simp only [Bool.or_eq_true, beq_iff_eq] at hj; rcases hj with hj | rfl
   ·rcases hp j hj hSj with ⟨u, wu, vu, pu⟩ | ⟨u, vu, pu⟩
    ·exact .inl ⟨u, wu, vu, (pu.keep hr.reg hr.dclosed hj ho hi).grow hgrow⟩
    ·exact .inr ⟨u, vu, (pu.keep hr.reg hr.dclosed hj ho hi).mono (hpd _)⟩
   ·refine .inr ⟨o', p.1, zrj.fresh hr.reg hr.dclosed ho hb hi hf hw ⟨H, l, by rw [hop, hl2], ?_⟩⟩
    show (if H.next = H.next then _ else μ.pd H.next) = _
    rw [if_pos rfl]
  obtain ⟨r2, p2⟩ := zno _ _ _ hl h2 r1 p1
  exact ⟨_, _, cs, w, .refl _ _, hle, Below.refl N w, hH', ⟨(hR.mono hle).todo, by rw [if_pos hR.running]; exact .reg r2 h3 p2 (hk.mono fun _ _ r => r.mono hle)⟩, hcs.monoD fun d _ => hpd d⟩
end
end Go.Am
namespace Go.Am
open Go Go.RowKit
section
variable {P : Program} {C : Ctx} {B N : Nat} {I : World -> Prop} {μ ν : Mu} {H H' : zai} {w : World} {tm : Tm} {R : zgf} {acs : List zav} {base cs : List Frame}
variable {b : Frame} {tmps : Array Value} {ds : List Deferred} {k : List zce} {k' : List Item} {all : Array Oper}
theorem zzdw (hH : zb0 B N μ H w) (hcs : Frs C μ acs cs) (hR : zbx μ R (b.atR ⟨tmps, ds⟩ [])) (ht : zcm μ R.n tm tmps) (hk : zec (zbo μ) k k') :
  zb2 P C B N μ base (lone (b.atR ⟨tmps, ds⟩ (.beginRound :: k')) (cs ++ base) w) w (z4s C k tm R acs H) := by
 unfold z4s
 cases hr : R.roundOf with
 | none => exact trivial
 | some l =>
  obtain ⟨i, hi, hb⟩ : ∃ i, μ l = some i /\ b.roundOf = some i.b := by
   have := hR.round
   rw [hr] at this; exact znd this
  rw [zac]
  cases hx : zju H l with
  | none => exact trivial
  | some r =>
   rw [zac]
   cases hst : Nat.beq (LoopState.tag r.state) 0 with
   | false => exact trivial
   | true =>
    obtain ⟨hl, r', hg, hw, rel⟩ := zkd hH hx hi
    have ready : r'.state = .ready := by
     rw [rel.state]
     cases hs : r.state <;> rw [hs] at hst <;> first | rfl | simp [LoopState.tag, Nat.beq] at hst
    have run : (Instr.beginRound i.b).run P w = .ok () (World.setBlk w i.b (.loop { r' with state := .busy })) := by
     simp only [Instr.beginRound, Sem.run_bind, zhc hw, Result.andThen_ok, zg1 hw zjg, ready, Sem.run_pure]
    refine ⟨μ, _, cs, _, .one (stepR_beginRound hb run), fun _ _ h => h, zdo (hH.own l i hl hi).1, ?_, ⟨?_, ?_⟩, hcs⟩
    ·refine hH.upd hg hi hl ?_
     rw [zm8]; exact ⟨_, rfl, rfl, rel.pending, rel.fn, rel.tm, rel.params, rel.assign, rel.body, rel.defers⟩
    ·refine ⟨hR.fn, hR.size, hR.defers, hR.mode, hR.kind, ?_⟩
     exact hR.round
    ·show if R.mode.running = true then zdy C μ acs.length R.n _ k tm k' tmps else zcm μ R.n tm tmps
     rw [if_pos hR.running]; exact .plain hk ht
theorem zrr {l : Nat} {jump : Option Code} {w' : World} {cs : List Frame} (hr : (Instr.endLoop l).run P w = .ok jump w') :
  step P (lone (b.atR ⟨tmps, ds⟩ (.endRangeFunc l :: k')) cs w) = .next (lone (b.atR ⟨tmps, ds⟩ ((jump.map Item.code).toList ++ k')) cs w') :=
 step_lone_go (by simp [stepG, stepG.exec, Frame.atR, Sem.runT_eq, hr])
theorem zzn (hH : zb0 B N μ H w) (hcs : Frs C μ acs cs) (hR : zbx μ R (b.atR ⟨tmps, ds⟩ [])) (ht : zcm μ R.n tm tmps) (hk : zec (zbo μ) k k') {l : Nat} {i : BI} (hi : μ l = some i) :
  zb2 P C B N μ base (lone (b.atR ⟨tmps, ds⟩ (.endRangeFunc i.b :: k')) (cs ++ base) w) w (zph l C k tm R acs H) := by
 unfold zph
 cases hx : zju H l with
 | none => exact trivial
 | some r =>
  rw [zac]
  cases hst : Nat.beq (LoopState.tag r.state) 1 with
  | true => exact trivial
  | false =>
   obtain ⟨hl, r', hg, hw, rel⟩ := zkd hH hx hi
   have busy : r'.state ≠ .busy := by
    intro e; rw [rel.state] at e; rw [e] at hst
    cases hst
   have run : (Instr.endLoop i.b).run P w = .ok r'.pending (World.setBlk w i.b (.loop { r' with state := .exhausted })) := by
    simp [Instr.endLoop, Sem.run_bind, zhc hw, Result.andThen_ok, zg1 hw zjg, busy]
   refine ⟨μ, _, cs, _, .one (zrr run), fun _ _ h => h, zdo (hH.own l i hl hi).1, ?_, ⟨?_, ?_⟩, hcs⟩
   ·refine hH.upd hg hi hl ?_
    rw [zm8]; exact ⟨_, rfl, rfl, rel.pending, rel.fn, rel.tm, rel.params, rel.assign, rel.body, rel.defers⟩
   ·exact ⟨hR.fn, hR.size, hR.defers, hR.mode, hR.kind, hR.round⟩
   ·show if R.mode.running = true then zdy C μ acs.length R.n _ (match r.pending with | some c => .code c :: k | none => k) tm ((r'.pending.map Item.code).toList ++ k') tmps else zcm μ R.n tm tmps
    rw [if_pos hR.running, rel.pending]
    cases r.pending with
    | none => exact .plain hk ht
    | some c => exact .plain (.cons (.code c) hk) ht
theorem zps {f : Operand} {params : Array Nat} {assign body : Code} {l : Nat} {mark : List Deferred} {w1 : World} {g : Nat} {args' : Array Value} {cs : List Frame}
  (hE : (Instr.enterLoop b.fn tmps params assign body b.roundOf).run P w = .ok (l, mark) w1)
  (hA : (do let d <- resolve (Act.eval ⟨tmps, ds⟩) { callee := .value f, args := #[.const (.func (.yield l) #[] #[])], argTypes := #[] } 0; invoke d.target d.args : Sem Next).run P w1 = .ok (.enter g args') w1) :
  step P (lone (b.atR ⟨tmps, ds⟩ (.code (.rangeFunc f params assign body) :: k')) cs w) = .next (lone (Frame.enter P g args' .normal) (b.atR ⟨tmps, mark ++ ds⟩ (.inRangeFunc l :: k') :: cs) w1) := by
 refine step_lone_go ?_
 have he : (Frame.eval { b.atR ⟨tmps, ds⟩ (.code (.rangeFunc f params assign body) :: k') with todo := .inRangeFunc l :: k', defers := mark ++ ds }) = Act.eval ⟨tmps, ds⟩ := funext fun x => by cases x <;> rfl
 simp only [Frame.atR] at he; simp only [stepG, stepG.exec, Frame.atR, Sem.runT_eq, hE, GStep.bare_after, stepG.apply, he, hA, if_true]; rfl
theorem z29 {l : Nat} {v : zab} {h : zav} (e : zlx C l v = some h) : ∃ g first cap, v = .func (.func g) first cap /\ C.prims.get g = none /\ zeo C g (ziu first (.func (.yld l) [] [] :: cap)) false = some h := by
 unfold zlx at e; rw [zad] at e; obtain ⟨p, h1, h2⟩ := e
 obtain ⟨fn, first, cap⟩ := p
 rw [zq9] at h1
 cases fn with
 | yld m => cases h2
 | func g =>
  cases hp : C.prims.get g with
  | some x => simp only [hp] at h2; cases h2
  | none => simp only [hp] at h2; exact ⟨g, first, cap, h1, hp, h2⟩
theorem zsl {dp : Nat} (hS : Sim P C B N I) {l : Nat} {i : BI} {v : zab} {h : zav} (e : zlx C l v = some h) (hi : μ l = some i) {f : Operand} (hv : zaq μ v (Act.eval ⟨tmps, ds⟩ f)) {cur : Option zai} :
  ∃ g args', (∀ w, (do let d <- resolve (Act.eval ⟨tmps, ds⟩) { callee := .value f, args := #[.const (.func (.yield i.b) #[] #[])], argTypes := #[] } 0; invoke d.target d.args : Sem Next).run P w = .ok (.enter g args') w) ∧
   zf8 C μ dp cur h (Frame.enter P g args' .normal) := by
 obtain ⟨g, first, cap, rfl, hp, he⟩ := z29 e
 rw [zaq] at hv; obtain ⟨fn, a', c', hv, hf, h1, h2⟩ := hv
 cases hf; have hl : zby μ (ziu first (.func (.yld l) [] [] :: cap)) (a' ++ #[Value.func (.yield i.b) #[] #[]] ++ c').toList := by
  rw [zcl]; have : zby μ (zab.func (.yld l) [] [] :: cap) (Value.func (.yield i.b) #[] #[] :: c'.toList) := .cons (by rw [zaq]; exact ⟨_, _, _, rfl, ⟨i, hi, rfl⟩, .nil, .nil⟩) h2
  simpa using h1.append this
 obtain ⟨fr, fn, hfn, hb⟩ := zk2 (cur := cur) hS.fns he hl
 refine ⟨g, _, fun w => ?_, fr⟩
 simp only [Sem.run_bind, resolve, hv, Deferred.ofValue, Sem.run_pure, Result.andThen_ok, invoke]; have : Array.map (Act.eval ⟨tmps, ds⟩) #[Operand.const (Value.func (.yield i.b) #[] #[])] = #[Value.func (.yield i.b) #[] #[]] := by simp [Act.eval]
 rw [this]; exact zh3 hS.fns hfn hb
theorem zzb1 (hS : Sim P C B N I) (hH : zb0 B N μ H w) (hcs : Frs C μ acs cs) (hR : zbx μ R (b.atR ⟨tmps, ds⟩ [])) (ht : zcm μ R.n tm tmps) (hk : zec (zbo μ) k k') {f : Operand} {params : Array Nat} {assign body : Code} :
  zb2 P C B N μ base (lone (b.atR ⟨tmps, ds⟩ (.code (.rangeFunc f params assign body) :: k')) (cs ++ base) w) w (z4n f params assign body C k tm R acs H) := by
 unfold z4n
 cases hv : ev f (.now tm) with
 | none => exact trivial
 | some v =>
  have hvr := ht.erel (ds := ds) hH.glob f _ hv
  rw [zac]
  cases hr : R.roundOf with
  | none =>
   have hb : b.roundOf = none := by
    have := hR.round
    rw [hr] at this; exact zsf this
   simp only []
   cases hx : zlx C (H.next + 1) v with
   | none => exact trivial
   | some h =>
    have h1 := hH.newBlk (x := .deferred (some [])) (o := .deferred (some [])) (i := ⟨w.heap.size, true, 0, 0, false⟩) rfl rfl (by rw [zm8]; exact ⟨_, rfl, .nil⟩)
    have le1 : μ.le (μ.ext H.next ⟨w.heap.size, true, 0, 0, false⟩) := hH.ext_le
    have le2 : (μ.ext H.next ⟨w.heap.size, true, 0, 0, false⟩).le ((μ.ext H.next ⟨w.heap.size, true, 0, 0, false⟩).ext (newBlk H (.deferred (some []))).next ⟨w.heap.size + 1, true, 0, 0, false⟩) := h1.ext_le
    have sz : (w.alloc (.deferred (some []))).heap.size = w.heap.size + 1 := Array.size_push ..
    have h2 := h1.newBlk (x := .loop ⟨.ready, none, R.fn, R.n, tm, params.toList, assign, body, H.next⟩) (o := .loop { state := .ready, pending := none, fn := b.fn, tmps, params, assign, body, defers := w.heap.size })
     (i := ⟨w.heap.size + 1, true, 0, 0, false⟩) sz.symm rfl (by
      rw [zm8]; exact ⟨_, rfl, rfl, rfl, hR.fn, (ht.mono le1.f).mono le2.f, rfl, rfl, rfl, ⟨_, le2 _ _ Mu.ext_same, rfl⟩⟩)
    have le := Mu.le_trans le1 le2
    have hi2 : ((μ.ext H.next ⟨w.heap.size, true, 0, 0, false⟩).ext (newBlk H (.deferred (some []))).next ⟨w.heap.size + 1, true, 0, 0, false⟩) (H.next + 1) = some ⟨w.heap.size + 1, true, 0, 0, false⟩ := Mu.ext_same
    obtain ⟨g, args', hA, hfr⟩ := zsl (ds := ds) hS hx hi2 (hvr.mono le.f _ _) (cur := some (newBlk (newBlk H (.deferred (some []))) (.loop ⟨.ready, none, R.fn, R.n, tm, params.toList, assign, body, H.next⟩)))
    have run : (Instr.enterLoop b.fn tmps params assign body b.roundOf).run P w = .ok (w.heap.size + 1, [{ target := .collected w.heap.size, args := #[] }]) ((w.alloc (.deferred (some []))).alloc (.loop { state := .ready, pending := none, fn := b.fn, tmps, params, assign, body, defers := w.heap.size })) := by
     rw [hb]; simp [Instr.enterLoop, Sem.run_bind, Result.andThen_ok]
    refine ⟨_, _, b.atR ⟨tmps, { target := .collected w.heap.size, args := #[] } :: ds⟩ (.inRangeFunc (w.heap.size + 1) :: k') :: cs, _, .one (zps run (hA _)), le, ?_, h2, hfr, .cons ⟨?_, ?_⟩ (hcs.mono le)⟩
    ·refine (zcc hH.size _).trans (zcc ?_ _)
     rw [sz]; have := hH.size; omega
    ·have := hR.mono le.f
     exact ⟨this.fn, this.size, .cons ⟨⟨_, le2 _ _ Mu.ext_same, rfl⟩⟩ this.defers, this.mode, this.kind, by have := this.round; rw [hr] at this; exact this⟩
    ·show if R.mode.running = true then zdy C _ acs.length R.n none (.inRange (H.next + 1) :: k) tm (.inRangeFunc (w.heap.size + 1) :: k') tmps else _
     rw [if_pos hR.running]; exact .plain (.cons (.inRange _ ⟨w.heap.size + 1, true, 0, 0, false⟩ hi2) (hk.mono fun _ _ r => r.mono le.f)) (ht.mono le.f)
  | some outer =>
   obtain ⟨io, hio, hb⟩ : ∃ i, μ outer = some i /\ b.roundOf = some i.b := by
    have := hR.round
    rw [hr] at this; exact znd this
   simp only []
   cases hlo : zju H outer with
   | none => exact trivial
   | some o =>
    rw [zac]
    cases hx : zlx C H.next v with
    | none => exact trivial
    | some h =>
     obtain ⟨hl, r', hg, hw, rel⟩ := zkd hH hlo hio
     obtain ⟨idf, hdf, hdf'⟩ := rel.defers
     have le : μ.le (μ.ext H.next ⟨w.heap.size, true, 0, 0, false⟩) := hH.ext_le
     have h2 := hH.newBlk (x := .loop ⟨.ready, none, R.fn, R.n, tm, params.toList, assign, body, o.defers⟩) (o := .loop { state := .ready, pending := none, fn := b.fn, tmps, params, assign, body, defers := r'.defers })
      (i := ⟨w.heap.size, true, 0, 0, false⟩) rfl rfl (by
       rw [zm8]; exact ⟨_, rfl, rfl, rfl, hR.fn, ht.mono le, rfl, rfl, rfl, ⟨idf, le _ _ hdf, hdf'⟩⟩)
     have hi2 : (μ.ext H.next ⟨w.heap.size, true, 0, 0, false⟩) H.next = some ⟨w.heap.size, true, 0, 0, false⟩ := Mu.ext_same
     obtain ⟨g, args', hA, hfr⟩ := zsl (ds := ds) hS hx hi2 (hvr.mono le.f _ _) (cur := some (newBlk H (.loop ⟨.ready, none, R.fn, R.n, tm, params.toList, assign, body, o.defers⟩)))
     have run : (Instr.enterLoop b.fn tmps params assign body b.roundOf).run P w = .ok (w.heap.size, []) (w.alloc (.loop { state := .ready, pending := none, fn := b.fn, tmps, params, assign, body, defers := r'.defers })) := by
      rw [hb]; simp [Instr.enterLoop, Sem.run_bind, zhc hw, Result.andThen_ok]
     refine ⟨_, _, b.atR ⟨tmps, ds⟩ (.inRangeFunc w.heap.size :: k') :: cs, _, .one (zps run (hA _)), le, zcc hH.size _, h2, hfr, .cons ⟨?_, ?_⟩ (hcs.mono le)⟩
     ·have := hR.mono le.f
      exact ⟨this.fn, this.size, this.defers, this.mode, this.kind, this.round⟩
     ·show if R.mode.running = true then zdy C _ acs.length R.n none (.inRange H.next :: k) tm (.inRangeFunc w.heap.size :: k') tmps else _
      rw [if_pos hR.running]; exact .plain (.cons (.inRange _ ⟨w.heap.size, true, 0, 0, false⟩ hi2) (hk.mono fun _ _ r => r.mono le.f)) (ht.mono le.f)
theorem zx9 {c : Code} : step P (lone (b.atR ⟨tmps, ds⟩ (.code (.scope c) :: k')) cs w) = .next (lone (b.atR ⟨tmps, ds⟩ (.code c :: .inScope c :: k')) cs w) :=
 step_lone_go (by simp [stepG, stepG.exec, Frame.atR])
theorem ztt {c : Code} : step P (lone (b.atR ⟨tmps, ds⟩ (.inScope c :: k')) cs w) = .next (lone (b.atR ⟨tmps, ds⟩ k') cs w) :=
 step_lone_go (by simp [stepG, stepG.exec, Frame.atR])
theorem zzii (hS : Sim P C B N I) (hI : I w) (hH : zb0 B N μ H w) (hcs : Frs C μ acs cs) (hR : zbx μ R (b.atR ⟨tmps, ds⟩ [])) (ht : zcm μ R.n tm tmps) : ∀ (c : Code) {k : List zce} {k' : List Item}, zec (zbo μ) k k' →
  zb2 P C B N μ base (lone (b.atR ⟨tmps, ds⟩ (.code c :: k')) (cs ++ base) w) w ((zzf5 c).f C k tm R acs H) := by
 intro c; induction c with
 | skip => intro k k' hk; exact zt5 hH hcs hR ht hk stepR_skip
 | region id ops d =>
  intro k k' hk
  cases d with
  | true => exact zzie hS hH hcs hR ht hk
  | false =>
   refine zb2.of_steps (.one stepR_region) (fun _ _ h => h) (Below.refl N w) ?_
   have := zvt (base := base) (all := ops) hS ops.toList 0 tm.cut H w μ tmps (by simp) (Nat.zero_le _) hI hH hcs hR ht.cut hk
   rw [List.drop_zero] at this; exact this
 | seq x y ihx _ =>
  intro k k' hk; exact zb2.of_steps (.one stepR_seq) (fun _ _ h => h) (Below.refl N w) (ihx (.cons (.code y) hk))
 | cond c x y _ _ => intro k k' hk; exact zzig hH hcs hR ht hk
 | block id c _ => intro k k' hk; exact zzdv hH hcs hR ht hk
 | loop c _ => intro k k' hk; exact zzhc hH hcs hR ht hk
 | rangeFunc f ps a c _ _ => intro k k' hk; exact zzb1 hS hH hcs hR ht hk
 | exit id => intro k k' hk; exact zzh9 hH hcs hR ht hk
 | scope c _ => intro k k' hk; exact zgr hH hcs hR ht (.cons (.code _) (.cons (.inScope _) hk)) (.one zx9)
 | label l => intro k k' hk; exact zt5 hH hcs hR ht hk stepR_label
 | goto l => intro k k' _; exact trivial
 | ret => intro k k' _; exact ret_ok hH hcs hR ht
 | refuse s => intro k k' _; exact trivial
theorem zzia (hS : Sim P C B N I) (hI : I w) (hH : zb0 B N μ H w) (hcs : Frs C μ acs cs) (hR : zbx μ R (b.atR ⟨tmps, ds⟩ [])) {todo : List zce} {btodo : List Item} (hb : zdy C μ acs.length R.n (some H) todo tm btodo tmps) :
  zb2 P C B N μ base (lone (b.atR ⟨tmps, ds⟩ btodo) (cs ++ base) w) w (zul C todo tm R acs H) := by
 generalize hc : some H = cur at hb
 cases hb with
 | plain a t =>
  cases a with
  | nil => exact end_ok hH hcs hR t
  | cons i hk =>
   cases i with
   | code c => exact zzii hS hI hH hcs hR t c hk
   | inBlock id => exact zt5 hH hcs hR t hk stepR_inBlock
   | inLoop c => exact zgr hH hcs hR t (.cons (.code _) (.cons (.inLoop _) hk)) (.one stepR_inLoop)
   | inScope c => exact zt5 hH hcs hR t hk ztt
   | ops all i hi => exact zvt hS _ i _ _ _ _ _ rfl hi hI hH hcs hR t hk
   | inRange l i hl => exact trivial
   | endRange l i hl => exact zzn hH hcs hR t hk hl
   | beginRound => exact zzdw hH hcs hR t hk
 | @reg _ all old _ olds stages _ order _ _ anc D S hr hst hp hk =>
  cases hc; show zb2 P C B N μ base _ w (zza0 all old olds stages C _ tm R acs H)
  unfold zza0
  cases stages with
  | nil => exact z6v hS hH hcs hR hk hr hst hp
  | cons st stages =>
   by_cases hlt : st.heavy <= all.size
   ·obtain ⟨_, _, D1, D2, h1, _⟩ := zgt hst hlt
    obtain ⟨o, ho, _⟩ := zir h1
    have : ze7 all.toList st.heavy = some o := by rw [zbh]; simpa using ho
    simp only [this]; exact zzc2 hS hI hH hcs hR hk hr hst hp ho
   ·have : ze7 all.toList st.heavy = none := by rw [zbh]; simp; omega
    simp only [this]; rw [zar, if_pos (zdl.2 (by rw [zbb]; simp; omega))]
    have e0 : Nat.sub st.heavy (Nat.succ (zbw all.toList)) = st.heavy - (all.size + 1) := by rw [zbb]; simp
    rw [e0]; exact z3w hS hH hcs hR hk hr hst hp (by omega)
 | @mid _ all old _ olds lights again stages _ order _ _ anc D D2 S hr h1 h2 hw hk =>
  show zb2 P C B N μ base _ w (zza0 all old olds (⟨all.size, lights, again⟩ :: stages) C _ tm R acs H)
  unfold zza0; have : ze7 all.toList all.size = none := by rw [zbh]; simp
  simp only [this]; rw [zar, if_neg fun e => by have := zdl.1 e; rw [zbb] at this; simp at this]
  exact z75 hH hcs hR hk (st := ⟨all.size, lights, again⟩) hr h1 h2 hw
 | wait _ _ _ _ _ => cases hc
end
end Go.Am
namespace Go.Am
open Go Go.RowKit
section
variable {P : Program} {C : Ctx} {B N : Nat} {I : World -> Prop} {μ ν : Mu} {H H' : zai} {w : World} {tm : Tm} {R : zgf} {acs : List zav} {base cs : List Frame}
variable {b : Frame} {tmps : Array Value}
theorem zpr {block : Nat} {es calls : List Deferred} {w' : World} (hm : b.mode ≠ .run) (hd : b.defers = { target := .collected block, args := #[] } :: es) (hr : (Instr.takeDeferred block).run P w = .ok calls w') :
  step P (lone b cs w) = .next (lone { b with defers := calls ++ es } cs w') := by
 obtain ⟨fn, tmps, todo, defers, mode, kind, round⟩ := b
 simp only at hm hd
 subst hd; refine step_lone_go ?_
 cases mode with
 | run => exact absurd rfl hm
 | returning => simp [stepG, unwind, Sem.runT_eq, hr]
 | panicking c => simp [stepG, unwind, Sem.runT_eq, hr]
theorem z2x {f : Nat} {cap as : Array Value} {es : List Deferred} (hm : b.mode ≠ .run) (hd : b.defers = { target := .fn (.func f) cap, args := as } :: es) (hr : (callFunc f (as ++ cap)).run P w = .ok (.enter f (as ++ cap)) w) :
  step P (lone b cs w) = .next (lone (Frame.enter P f (as ++ cap) .deferred) ({ b with defers := es } :: cs) w) := by
 obtain ⟨fn, tmps, todo, defers, mode, kind, round⟩ := b
 simp only at hm hd
 subst hd; refine step_lone_go ?_
 cases mode with
 | run => exact absurd rfl hm
 | returning => simp [stepG, unwind, callDeferred, invoke, Sem.runT_eq, hr]
 | panicking c => simp [stepG, unwind, callDeferred, invoke, Sem.runT_eq, hr]
def zm4 (c : Frame) : Frame :=
 match c.mode with
 | .panicking ({ recovered := true, .. } :: older) =>
  match older.dropWhile (!·.goexit) with
  | [] => { c with mode := .returning }
  | rest => { c with mode := .panicking rest }
 | _ => c
theorem zrq {fn : Func} {v : Value} {c : Frame} (hm : b.mode = .returning) (hd : b.defers = []) (hk : b.kind = .deferred) (hf : P.funcs[b.fn]? = some fn) (hr : (results fn b.tmps).run P w = .ok v w) :
  step P (lone b (c :: cs) w) = .next (lone (zm4 c) cs w) := by
 refine step_lone_go ?_
 simp only [stepG, unwind, doReturn, hm, hd, hk, hf, Sem.runT_eq, hr, GStep.bare_after]; rfl
def z0z (tmps : Array Value) (r : ResultVar) : Sem Value :=
 match r with
 | .tmp t => pure (tmps.getD t undef)
 | .cell a t => do loadVar t (<- asAddr (tmps.getD a undef))
theorem z26 (fn : Func) (tmps : Array Value) : results fn tmps = (do let vs <- fn.results.mapM (z0z tmps); pure (if h : vs.size = 1 then vs[0] else .tuple vs)) := rfl
theorem zox (hT : zdm P C) (hH : zb0 B N μ H w) {n : Nat} (ht : zcm μ n tm tmps) : ∀ (rs : List ResultVar) (l : List zab), zga (zj8 C H tm) rs = some l →
  ∃ vs, (rs.mapM (z0z tmps)).run P w = .ok vs w /\ zby μ l vs := by
 intro rs; induction rs with
 | nil => intro l h; rw [zke] at h; cases h; exact ⟨[], by simp [Sem.run_pure], .nil⟩
 | cons r rs ih =>
  intro l h; rw [zdi, zad] at h; obtain ⟨a, ha, h⟩ := h
  rw [zad] at h; obtain ⟨m, hm, h⟩ := h
  cases h; obtain ⟨vs, h1, h2⟩ := ih m hm
  rw [List.mapM_cons]
  cases r with
  | tmp t =>
   refine ⟨_, ?_, .cons (ht.2 t a ha) h2⟩
   simp only [z0z, Sem.run_bind, Sem.run_pure, Result.andThen_ok, h1]
  | cell x t =>
   simp only [zj8, zad, zg2] at ha; obtain ⟨p, ⟨av, hav, rfl⟩, ty, hty, c, hc, hl⟩ := ha
   have hv := ht.2 x _ hav
   rw [zaq] at hv; obtain ⟨i, hi, hv⟩ := hv
   obtain ⟨v', h3, h4⟩ := z1f (P := P) hH (hT.facts hty) hc hi hl
   refine ⟨_, ?_, .cons h4 h2⟩
   have ha : (asAddr (Value.pointer (some ⟨i.b, p.2, none⟩))).run P w = .ok ⟨i.b, p.2, none⟩ w := rfl
   have one : (z0z tmps (.cell x t)).run P w = .ok v' w := by
    show ((asAddr (tmps.getD x undef)).bind fun a => loadVar t a).run P w = _
    rw [hv]; exact h3
   simp only [Sem.run_bind, Sem.run_pure, Result.andThen_ok, one, h1]
theorem zsg (hT : zdm P C) (hH : zb0 B N μ H w) {n : Nat} (ht : zcm μ n tm tmps) {fn : Func} {l : List zab} (h : zjd C H tm fn.results.toList = some l) :
  ∃ v, (results fn tmps).run P w = .ok v w /\ zaq μ (zlr l) v := by
 obtain ⟨vs, h1, h2⟩ := zox hT hH ht _ _ h
 refine ⟨if h : vs.toArray.size = 1 then vs.toArray[0] else .tuple vs.toArray, ?_, ?_⟩
 ·rw [z26, Array.mapM_eq_mapM_toList]
  simp only [Sem.run_bind, map_eq_pure_bind, h1, Result.andThen_ok, Sem.run_pure]
 ·have hl := h2.length
  cases l with
  | nil =>
   rw [zby] at h2; subst h2; rw [dif_neg (by simp)]
   show zaq μ (.tup []) _
   rw [zaq]; exact ⟨_, rfl, .nil⟩
  | cons a m =>
   cases m with
   | nil =>
    rw [zby] at h2; obtain ⟨v, r, rfl, hv, hr⟩ := h2
    rw [zby] at hr; subst hr; rw [dif_pos (by simp)]
    exact hv
   | cons a2 m =>
    rw [dif_neg (by simp [hl])]
    show zaq μ (.tup (a :: a2 :: m)) _
    rw [zaq]; exact ⟨_, rfl, by simpa using h2⟩
def DefRel (μ : Mu) : Option (List zz7) -> Option (List Deferred) -> Prop
 | none, none => True
 | some a, some b => zec (zjp μ) a b
 | _, _ => False
theorem zzr (hH : zb0 B N μ H w) {l : Nat} {x : Option (List zz7)} (h : zpd H l = some x) {i : BI} (h4 : μ l = some i) : B <= l /\ ∃ x', H.t.get l = some (.deferred x) /\ w.heap[i.b]? = some (.deferred x') /\ DefRel μ x x' := by
 unfold zpd at h; rw [zae, zj2, zad] at h; obtain ⟨h1, y, h2, h3⟩ := h
 have : y = .deferred x := by cases y <;> simp [zal.asDeferred] at h3; rw [h3]
 subst this; obtain ⟨o, h5, h6⟩ := hH.blk l _ i h2 h4
 rw [zm8] at h6; obtain ⟨r', rfl, h7⟩ := h6
 refine ⟨Nat.le_of_not_lt fun hlt => ?_, r', h2, h5, ?_⟩
 ·have := (hH.low l _ i hlt h2 h4).2.2
  cases this
 cases x <;> cases r' <;> exact h7
theorem z3h {μ : Mu} {m : zry} {m' : FrameMode} (h : zrk μ m m') (hm : m.running = false) : m' ≠ .run := by
 rintro rfl
 cases m <;> first | exact h.elim | cases hm
theorem z49 (hS : Sim P C B N I) (hH : zb0 B N μ H w) (hcs : Frs C μ acs cs) {fr : zav} (hr : zbx μ fr.R b) (hm : fr.R.mode.running = false) (ht : zcm μ fr.R.n fr.tm b.tmps) {d : zz7} {l : List zz7} (hd : fr.R.defers = d :: l) :
  zb2 P C B N μ base (lone b (cs ++ base) w) w (z5a C d l fr acs H) := by
 have hrun := z3h hr.mode hm
 have hds := hr.defers
 rw [hd] at hds; generalize hbd : b.defers = bd at hds
 cases hds with
 | @cons _ e _ es h1 h2 =>
  obtain ⟨dfn, dr, dargs⟩ := d
  have h1 := h1.rel
  unfold z5a
  cases dfn with
  | none =>
   obtain ⟨i, hi, rfl⟩ := h1
   simp only []
   cases hx : zpd H dr with
   | none => exact trivial
   | some x =>
    rw [zac]
    cases x with
    | none => exact trivial
    | some calls =>
     obtain ⟨hl, x', hg, hw, rel⟩ := zzr hH hx hi
     cases x' with
     | none => exact rel.elim
     | some calls' =>
      have run : (Instr.takeDeferred i.b).run P w = .ok calls' (World.setBlk w i.b (.deferred none)) := by
       have : (setObj i.b (.deferred none)).run P w = .ok () (World.setBlk w i.b (.deferred none)) := zg1 hw (by intro a b c h; cases h)
       have hg : (getObj i.b).run P w = .ok (.deferred (some calls')) w := by simp [getObj, Sem.run, hw]
       simp only [Instr.takeDeferred, Sem.run_bind, hg, Result.andThen_ok, this, Sem.run_pure]
      refine ⟨μ, _, cs, _, .one (zpr hrun hbd run), fun _ _ h => h, zdo (hH.own dr i hl hi).1, ?_, ⟨?_, ?_⟩, hcs⟩
      ·refine hH.upd hg hi hl ?_
       rw [zm8]; exact ⟨none, rfl, trivial⟩
      ·refine ⟨hr.fn, hr.size, ?_, hr.mode, hr.kind, hr.round⟩
       show zec (zjp μ) (ziu calls l) (calls' ++ es)
       rw [zcl]; exact zec.append rel h2
      ·show if fr.R.mode.running = true then zdy C _ _ _ _ _ _ _ _ else _
       rw [if_neg (by rw [hm]; simp)]
       exact ht
  | some fn =>
   cases fn with
   | yld m => exact trivial
   | func f =>
    obtain ⟨fn, cap, as, rfl, hfn, hl⟩ := h1
    cases hfn; simp only []
    cases hp : C.prims.get f with
    | some x => exact trivial
    | none =>
     simp only []
     cases he : zeo C f dargs true with
     | none => exact trivial
     | some g =>
      obtain ⟨h3, fn, hfn, hb⟩ := zk2 (cur := some H) hS.fns he hl
      refine ⟨μ, _, { b with defers := es } :: cs, w, .one (z2x hrun hbd (zh3 hS.fns hfn hb)), fun _ _ h => h, Below.refl N w, hH, h3, .cons ⟨⟨hr.fn, hr.size, h2, hr.mode, hr.kind, hr.round⟩, ?_⟩ hcs⟩
      show if fr.R.mode.running = true then zdy C _ _ _ _ _ _ _ _ else _
      rw [if_neg (by rw [hm]; simp)]
      exact ht
theorem zf8.still {dp : Nat} {cur cur' : Option zai} {fr : zav} (h : zf8 C μ dp cur fr b) (hm : fr.R.mode.running = false) : zf8 C μ dp cur' fr b := by
 refine ⟨h.rest, ?_⟩
 have := h.body
 rw [if_neg (by rw [hm]; simp)] at this ⊢
 exact this
theorem zup {l : List PanicEntry} {m : List zov} (h : zec (zh9 μ) m l) : l.dropWhile (!·.goexit) = [] := by
 induction h with
 | nil => rfl
 | cons a _ ih => simp [a.goexit, ih]
def zzdx (c : zav) (rest : List zav) (H : zai) : Option zjv :=
 match c.R.mode with
 | .panicking (⟨_, true⟩ :: _) => some (⟨zp2 c .returning, rest, H⟩ : zjv)
 | _ => zao (!c.R.mode.running) (some ⟨c, rest, H⟩)
def z03 (C : Ctx) (fr : zav) (ch : List zov) (cs : List zav) (H : zai) : zdr :=
 zkb (ob (C.fns.get fr.R.fn) fun _ => match cs with | c :: rest => some ⟨z04 c ch, rest, H⟩ | [] => none) 19
theorem zziq {dp : Nat} {c : zav} {c' : Frame} (hc : zf8 C μ dp none c c') {x : zjv} {rest : List zav} (h : zzdx c rest H = some x) : x.cs = rest /\ x.H = H /\ zf8 C μ dp (some H) x.fr (zm4 c') := by
 have hm := hc.rest.mode
 have stay : c'.mode = c'.mode -> (zm4 c' = c') -> c.R.mode.running = false -> x = ⟨c, rest, H⟩ -> x.cs = rest /\ x.H = H /\ zf8 C μ dp (some H) x.fr (zm4 c') := by
  intro _ h1 h2 h3; subst h3; rw [h1]; exact ⟨rfl, rfl, hc.still h2⟩
 obtain ⟨ct, ctm, cR⟩ := c
 obtain ⟨f, n, de, mode, dd, ro⟩ := cR
 unfold zzdx at h; simp only at h hm
 cases mode with
 | run => cases h
 | returning =>
  cases hcm : c'.mode with
  | returning => exact stay rfl (by unfold zm4; rw [hcm]) rfl (Option.some.inj h).symm
  | _ => rw [hcm] at hm; exact hm.elim
 | panicking ch =>
  cases hcm : c'.mode with
  | run => rw [hcm] at hm; exact hm.elim
  | returning => rw [hcm] at hm; exact hm.elim
  | panicking ch' =>
   rw [hcm] at hm
   cases hm with
   | nil => exact stay rfl (by unfold zm4; rw [hcm]) rfl (Option.some.inj h).symm
   | @cons p e older older' hp hold =>
    obtain ⟨pv, pr⟩ := p
    obtain ⟨ev', er, eg⟩ := e
    obtain ⟨q1, q2, q3⟩ := hp
    simp only at q1 q2 q3
    subst q2 q3
    cases er with
    | false => exact stay rfl (by unfold zm4; rw [hcm]) rfl (Option.some.inj h).symm
    | true =>
     cases Option.some.inj h
     refine ⟨rfl, rfl, ?_⟩
     have : zm4 c' = { c' with mode := .returning } := by
      unfold zm4; rw [hcm]; simp only [zup hold]
     rw [this]; have hb := hc.body
     exact ⟨⟨hc.rest.fn, hc.rest.size, hc.rest.defers, trivial, hc.rest.kind, hc.rest.round⟩, hb⟩
theorem z2o (hS : Sim P C B N I) (hH : zb0 B N μ H w) (hcs : Frs C μ acs cs) {fr : zav} (hr : zbx μ fr.R b) (hm : b.mode = .returning) (hd : b.defers = []) (ht : zcm μ fr.R.n fr.tm b.tmps) :
  zb2 P C B N μ base (lone b (cs ++ base) w) w (zpm C fr acs H) := by
 unfold zpm
 cases hx : ob (C.fns.get fr.R.fn) fun fn => zjd C H fr.tm fn.results.toList with
 | none => exact trivial
 | some l =>
  rw [zad] at hx; obtain ⟨fn, hfn, hres⟩ := hx
  obtain ⟨v, h1, h2⟩ := zsg hS.tys hH ht hres
  have hf : P.funcs[b.fn]? = some fn := by rw [hr.fn]; exact (hS.fns _ _ hfn).1
  have hk := hr.kind
  simp only []
  cases hcs with
  | nil =>
   simp only [zar]
   cases hdf : fr.R.deferred with
   | true => exact trivial
   | false =>
    rw [hdf] at hk; rw [if_neg (by simp)]
    split
    ·rename_i hroot
     exact ⟨μ, b, w, v, .refl _ _, fun _ _ h => h, Below.refl N w, hH, h2, by rw [hr.fn]; exact zc0.1 hroot, hm, hd, hk, fn, hf, h1⟩
    ·exact trivial
  | @cons c c' acs1 cs1 hc hcs1 =>
   simp only []
   cases hdf : fr.R.deferred with
   | true =>
    rw [hdf] at hk; simp only [cond_true]; show zb2 P C B N μ base _ w (zkb (zzdx c acs1 H) 18)
    generalize hx : zzdx c acs1 H = x
    cases x with
    | none => exact trivial
    | some x =>
     obtain ⟨h3, h4, h5⟩ := zziq hc hx
     obtain ⟨xf, xc, xh⟩ := x
     simp only at h3 h4 h5
     subst h3 h4
     exact ⟨μ, _, cs1, w, .one (zrq hm hd hk hf h1), fun _ _ h => h, Below.refl N w, hH, h5, hcs1⟩
   | false =>
    rw [hdf] at hk; simp only [cond_false]
    cases hfi : zcr c (zlr l) with
    | none => exact trivial
    | some g =>
     exact ⟨μ, _, cs1, w, .one (step_leave_returned ⟨hm, hd, hk, fn, hf, h1⟩), fun _ _ h => h, Below.refl N w, hH, zhm hc hfi h2, hcs1⟩
theorem z47 (hS : Sim P C B N I) (hH : zb0 B N μ H w) (hcs : Frs C μ acs cs) {fr : zav} (hfr : zf8 C μ acs.length (some H) fr b) (hm : fr.R.mode.running = false) :
  zb2 P C B N μ base (lone b (cs ++ base) w) w (zpl C fr acs H) := by
 have ht : zcm μ fr.R.n fr.tm b.tmps := by
  have := hfr.body
  rw [if_neg (by rw [hm]; simp)] at this
  exact this
 have hr := hfr.rest
 unfold zpl
 cases hd : fr.R.defers with
 | cons d l => exact z49 hS hH hcs hr hm ht hd
 | nil =>
  have hbd : b.defers = [] := by
   have := hr.defers
   rw [hd] at this; generalize hbd : b.defers = bd at this
   cases this
   rfl
  have hmode := hr.mode
  simp only []
  cases hmo : fr.R.mode with
  | run => rw [hmo] at hm; cases hm
  | returning =>
   rw [hmo] at hmode; have : b.mode = .returning := by
    cases hb : b.mode with
    | returning => rfl
    | _ => rw [hb] at hmode; exact hmode.elim
   exact z2o hS hH hcs hr this hbd ht
  | panicking ch =>
   rw [hmo] at hmode
   cases hb : b.mode with
   | run => rw [hb] at hmode; exact hmode.elim
   | returning => rw [hb] at hmode; exact hmode.elim
   | panicking ch' =>
    rw [hb] at hmode; show zb2 P C B N μ base _ w (z03 C fr ch acs H)
    unfold z03
    cases hfn : C.fns.get fr.R.fn with
    | none => exact trivial
    | some fn =>
     rw [zac]; have hf : P.funcs[b.fn]? = some fn := by rw [hr.fn]; exact (hS.fns _ _ hfn).1
     cases hcs with
     | nil => exact trivial
     | @cons c c' acs1 cs1 hc hcs1 =>
      exact ⟨μ, _, cs1, w, .one (step_leave_panicked ⟨hb, hbd, fn, hf⟩), fun _ _ h => h, Below.refl N w, hH, z02 hc hmode, hcs1⟩
theorem zzbh (hS : Sim P C B N I) (hI : I w) {s : zjv} (hH : zb0 B N μ s.H w) (hcs : Frs C μ s.cs cs) (hfr : zf8 C μ s.cs.length (some s.H) s.fr b) : zb2 P C B N μ base (lone b (cs ++ base) w) w (stepA C s) := by
 obtain ⟨⟨todo, tm, R⟩, acs, H⟩ := s
 show zb2 P C B N μ base _ w (bif R.mode.running then zul C todo tm R acs H else zpl C ⟨todo, tm, R⟩ acs H)
 cases hm : R.mode.running with
 | false => exact z47 hS hH hcs hfr hm
 | true =>
  have hb := hfr.body
  have hr := hfr.rest
  simp only at hb hr
  rw [if_pos hm] at hb; have hbm : b.mode = .run := by
   have h := hr.mode
   cases hmo : R.mode with
   | run =>
    rw [hmo] at h
    cases hb : b.mode with
    | run => rfl
    | _ => rw [hb] at h; exact h.elim
   | _ => rw [hmo] at hm; cases hm
  have e := zzdz hbm
  have := zzia (b := b) (tmps := b.tmps) (ds := b.defers) (base := base) hS hI hH hcs ⟨hr.fn, hr.size, hr.defers, by have := hr.mode; rw [hbm] at this; exact this, hr.kind, hr.round⟩ hb
  rw [e] at this; exact this
theorem zgm (hS : Sim P C B N I) (hI : I w) {m : Machine} {o : zdr} (h : zb2 P C B N μ base m w o) : zb2 P C B N μ base m w (zi9 C o) := by
 cases o with
 | fail n => exact trivial
 | done v H => exact h
 | next s =>
  obtain ⟨μ', b, cs, w', h1, h2, h3, h4, h5, h6⟩ := h
  exact zb2.of_steps h1 h2 h3 (zzbh hS (hS.inv _ _ h3 hI) h4 h6 h5)
theorem znc (hS : Sim P C B N I) (hI : I w) {m : Machine} : ∀ (n : Nat) {o : zdr}, zb2 P C B N μ base m w o -> zb2 P C B N μ base m w (z0w C n o) := by
 intro n; induction n with
 | zero => intro o h; exact zgm hS hI h
 | succ n ih => intro o h; exact ih (ih h)
theorem zw6 (hS : Sim P C B N I) (hI : I w) {f : Nat} (hroot : C.root = f) {args : List zab} {args' : Array Value} (hH : zb0 B N μ H w) (hl : zby μ args args'.toList) {g : zav} (he : zeo C f args false = some g) {n : Nat} {v : zab} {H' : zai}
  (hrun : z0w C n (.next ⟨g, [], H⟩) = .done v H') :
  Calls P f args' w fun e w' => ∃ v' μ', e = .returned v' /\ μ.lw μ' /\ zaq μ' v v' /\ zb0 B N μ' H' w' /\ Below N w w' := by
 intro base; have h0 : zb2 P C B N μ base (lone (Frame.enter P f args' .normal) base w) w (.next ⟨g, [], H⟩) :=
  ⟨μ, _, [], w, .refl _ _, fun _ _ h => h, Below.refl N w, hH, (zk2 (cur := some H) hS.fns he hl).1, .nil⟩
 have h1 := znc hS hI n h0
 rw [hrun] at h1; obtain ⟨μ', b, w', v', h2, h3, h4, h5, h6, h7, h8⟩ := h1
 exact ⟨.returned v', w', b, ⟨v', μ', rfl, h3, h6, h5, h4⟩, h2, by rw [h7, hroot], h8⟩
end
end Go.Am
namespace Go.Am
open Go Go.RowKit
abbrev zb8 := Option (zab × zai)
abbrev Ora := Nat -> List zab -> zai -> zb8
structure Kt where
 norm : Tm -> zai -> zb8
 exit : Nat -> Tm -> zai -> zb8
 ret : Tm -> zai -> zb8
structure PI where
 id : Nat
 pl : List Nat
 ll : List (Nat × Nat)
def PI.kept (p : PI) : List Nat := ziu p.pl (List.rec (motive := fun _ => List Nat) [] (fun a _ r => a.1 :: r) p.ll)
inductive zdd where
 | skip
 | region (id : Nat) (ops : Array Oper) (draw : Bool)
 | seq (a b : zdd)
 | cond (c : Operand) (x y : zdd)
 | block (id : Nat) (c : zdd)
 | loop (p : PI) (c : zdd)
 | exit (id : Nat)
 | ret
 | cut (p : PI) (c : zdd)
def ze8 : zdd -> Code
 | .skip => .skip
 | .region id ops d => .region id ops d
 | .seq a b => .seq (ze8 a) (ze8 b)
 | .cond c x y => .cond c (ze8 x) (ze8 y)
 | .block id c => .block id (ze8 c)
 | .loop _ c => .loop (ze8 c)
 | .exit id => .exit id
 | .ret => .ret
 | .cut _ c => ze8 c
def lim {α : Type} (f : Nat -> Option α) : Option α := @dite _ (∃ n r, f n = some r) (Classical.propDecidable _) (fun h => f h.choose) (fun _ => none)
def Mono {α : Type} (f : Nat -> Option α) : Prop := ∀ n r, f n = some r -> f (n + 1) = some r
theorem Mono.le {α : Type} {f : Nat -> Option α} (h : Mono f) {n m : Nat} {r : α} (hr : f n = some r) (hnm : n <= m) : f m = some r := by
 induction hnm with
 | refl => exact hr
 | step _ ih => exact h _ _ ih
theorem zo6 {α : Type} {f : Nat -> Option α} (h : Mono f) {r : α} : lim f = some r ↔ ∃ n, f n = some r := by
 unfold lim; by_cases hx : ∃ n r, f n = some r
 ·rw [dif_pos hx]
  obtain ⟨r0, h0⟩ := hx.choose_spec
  constructor
  ·intro e; exact ⟨_, e⟩
  ·rintro ⟨n, hn⟩
   have a := h.le h0 (Nat.le_max_left hx.choose n)
   have b := h.le hn (Nat.le_max_right hx.choose n)
   rw [a] at b; rw [h0]; exact b
 ·rw [dif_neg hx]
  constructor
  ·intro e; cases e
  ·rintro ⟨n, hn⟩; exact absurd ⟨n, r, hn⟩ hx
def zzg6 : zct -> zab -> (zab -> zb8) -> zb8
 | .bool, v, K => ob v.asBool fun b => K (.bool b)
 | .int k, v, K => ob v.asIntK fun p => zao (kEq p.1 k) (K (.int k p.2))
 | .string, v, K => ob v.asStr fun l => K (.str l)
 | .ptr _, v, K => K v
 | .slice _, v, K => K v
 | .arr _ _, v, K => K v
 | .map _ _, v, K => K v
 | .struct _, v, K => K v
 | .func, v, K => K v
 | .iface, v, K => K v
 | .other, v, K => K v
def fitD : zct -> zab -> Prop
 | .bool, v => ∃ b, v = .bool b
 | .int k, v => ∃ n, v = .int k n
 | .string, v => ∃ l, v = .str l
 | _, _ => True
theorem z3i {d : zct} {v : zab} {K : zab -> zb8} {x : zab × zai} : zzg6 d v K = some x ↔ fitD d v /\ K v = some x := by
 cases d <;> simp only [zzg6, fitD, zad, zae, true_and]
 case bool =>
  constructor
  ·rintro ⟨b, h1, h2⟩; have := zef.1 h1; subst this; exact ⟨⟨b, rfl⟩, h2⟩
  ·rintro ⟨⟨b, rfl⟩, h⟩; exact ⟨b, rfl, h⟩
 case int k =>
  constructor
  ·rintro ⟨p, h1, h2, h3⟩; have := zcd.1 h1; subst this; rw [ze3.1 h2]; exact ⟨⟨p.2, rfl⟩, h3⟩
  ·rintro ⟨⟨n, rfl⟩, h⟩; exact ⟨(k, n), rfl, ze3.2 rfl, h⟩
 case string =>
  constructor
  ·rintro ⟨b, h1, h2⟩; have := zcv.1 h1; subst this; exact ⟨⟨b, rfl⟩, h2⟩
  ·rintro ⟨⟨b, rfl⟩, h⟩; exact ⟨b, rfl, h⟩
def zis (C : Ctx) (t : Nat) (v : zab) (K : zab -> zb8) : zb8 :=
 match C.tys.get t with
 | some ty => zzg6 ty.desc v K
 | none => K v
def zzc9 (C : Ctx) (t : Nat) (v : zab) : Prop :=
 match C.tys.get t with
 | some ty => fitD ty.desc v
 | none => True
theorem zcn {C : Ctx} {t : Nat} {v : zab} {K : zab -> zb8} {x : zab × zai} : zis C t v K = some x ↔ zzc9 C t v /\ K v = some x := by
 unfold zis zzc9; split
 ·exact z3i
 ·simp
def zj0 (φ : Ora) (r : ztd) (H : zai) (k : zab -> zai -> zb8) : zb8 :=
 match r with
 | .val v H' => k v H'
 | .enter f args => ob (φ f args H) fun p => k p.1 p.2
 | _ => none
def zxo (C : Ctx) (φ : Ora) (all : Array Oper) (n : Nat) (κ : Tm -> zai -> zb8) (l : List Oper) : Tm -> zai -> zb8 :=
 List.rec (motive := fun _ => Tm -> zai -> zb8) κ
  (fun o _ g tm H => ob (zbd o.guard all tm) fun w => Bool.rec (motive := fun _ => zb8) (g (putA n tm o.dst zbr) H)
   (zj0 φ ((aop o.op).f C (.now tm) H) H fun v H' => zis C o.type v fun v => g (putA n tm o.dst v) H') w) l
def zci (C : Ctx) (H : zai) (all : Array Oper) (n : Nat) (old : Tm) (olds : List (Nat × List Nat)) (k : Tm -> zb8) (l : List Nat) : Tm -> zb8 :=
 List.rec (motive := fun _ => Tm -> zb8) k
  (fun i _ g tm => ob (ze7 all.toList i) fun o => ob (zbd o.guard all tm) fun w => Bool.rec (motive := fun _ => zb8) (g (putA n tm o.dst zbr))
   (ob ((zb6 o.op).f C (.mixed tm old (zc1 i olds) (zb4 o.op)) H) fun v => zis C o.type v fun v => g (putA n tm o.dst v)) w) l
def zfo (C : Ctx) (H : zai) (all : Array Oper) (old : Tm) (olds : List (Nat × List Nat)) (tm : Tm) (k : zb8) (l : List Nat) : zb8 :=
 List.rec (motive := fun _ => zb8) k
  (fun i _ g => ob (ze7 all.toList i) fun o => ob o.dst fun d => ob (zbd o.guard all tm) fun w => Bool.rec (motive := fun _ => zb8) g
   (ob ((zb6 o.op).f C (.mixed tm old (zc1 i olds) (zb4 o.op)) H) fun v => zis C o.type v fun v => ob (tm.get d) fun u => zao (same 10 v u) g) w) l
def zcq (C : Ctx) (φ : Ora) (all : Array Oper) (n : Nat) (old : Tm) (olds : List (Nat × List Nat)) (κ : Tm -> zai -> zb8) (l : List zd4) : Tm -> zai -> zb8 :=
 List.rec (motive := fun _ => Tm -> zai -> zb8) κ
  (fun st _ g tm H => ob (ze7 all.toList st.heavy) fun o => ob (zbd o.guard all tm) fun w =>
   (fun cont : zab -> zai -> zb8 => Bool.rec (motive := fun _ => zb8) (cont zbr H)
    (zj0 φ ((aop o.op).f C (.mixed tm old (zc1 st.heavy olds) (zb4 o.op)) H) H fun v H' => zis C o.type v fun v => cont v H') w)
   (fun v H' => zfo C H' all old olds (putA n tm o.dst v) (zci C H' all n old olds (fun tm => g tm H') st.lights (putA n tm o.dst v)) st.again)) l
def zne (C : Ctx) (φ : Ora) (fn n : Nat) (κ : Tm -> zai -> zb8) (id : Nat) (all : Array Oper) (draw : Bool) : Tm -> zai -> zb8 :=
 Bool.rec (motive := fun _ => Tm -> zai -> zb8) (fun tm H => zxo C φ all n κ all.toList tm.cut H)
  (fun tm H => ob (ob (C.plans.get fn) fun t => t.get id) fun p => zao (zjt all p) (zci C H all n tm.cut p.olds (fun tm' => zcq C φ all n tm.cut p.olds κ p.stages tm' H) p.first tm.cut)) draw
def zwn (tm : Tm) (live : List Nat) : Tr zab :=
 List.rec (motive := fun _ => Tr zab) .leaf (fun i _ t => match tm.get i with | some v => t.set i v | none => t) live
def keep (live : List Nat) (tm : Tm) : Tm := ⟨tm.k, zwn tm live, []⟩
def den (C : Ctx) (φ : Ora) (fn n : Nat) (c : zdd) : Kt -> Tm -> zai -> zb8 :=
 zdd.rec (motive := fun _ => Kt -> Tm -> zai -> zb8)
  (fun κ tm H => κ.norm tm H)
  (fun id all draw κ => zne C φ fn n κ.norm id all draw)
  (fun _ _ ga gb κ => ga ⟨gb κ, κ.exit, κ.ret⟩)
  (fun c _ _ gx gy κ tm H => ob (ob (ev c (.now tm)) zab.asBool) fun b => Bool.rec (motive := fun _ => zb8) (gy κ tm H) (gx κ tm H) b)
  (fun id _ g κ => g ⟨κ.norm, fun i tm H => Bool.rec (motive := fun _ => zb8) (κ.exit i tm H) (κ.norm tm H) (Nat.beq id i), κ.ret⟩)
  (fun live _ g κ tm H => lim fun m => Nat.rec (motive := fun _ => Tm -> zai -> zb8) (fun _ _ => none) (fun _ r tm H => g ⟨r, κ.exit, κ.ret⟩ (keep live.kept tm) H) m tm H)
  (fun id κ tm H => κ.exit id tm H)
  (fun κ tm H => κ.ret tm H)
  (fun live _ g κ tm H => g κ (keep live.kept tm) H) c
end Go.Am
namespace Go.Am
open Go Go.RowKit
def Le2 {α β γ : Type} (k k' : α -> β -> Option γ) : Prop := ∀ a b x, k a b = some x -> k' a b = some x
def OLe (φ φ' : Ora) : Prop := ∀ f a H x, φ f a H = some x -> φ' f a H = some x
structure KLe (κ κ' : Kt) : Prop where
 norm : Le2 κ.norm κ'.norm
 exit : ∀ i, Le2 (κ.exit i) (κ'.exit i)
 ret : Le2 κ.ret κ'.ret
section
variable {C : Ctx} {φ φ' : Ora} {all : Array Oper} {n : Nat} {x : zab × zai}
theorem zvv (hφ : OLe φ φ') {r : ztd} {H : zai} {k k' : zab -> zai -> zb8} (hk : Le2 k k') (h : zj0 φ r H k = some x) : zj0 φ' r H k' = some x := by
 cases r <;> simp only [zj0] at h ⊢ <;> try (cases h; done)
 case val v H' => exact hk _ _ _ h
 case enter f args =>
  rw [zad] at h ⊢
  obtain ⟨p, h1, h2⟩ := h
  exact ⟨p, hφ _ _ _ _ h1, hk _ _ _ h2⟩
theorem zni {t : Nat} {k k' : zab -> zai -> zb8} (hk : Le2 k k') : Le2 (fun v H => zis C t v fun v => k v H) (fun v H => zis C t v fun v => k' v H) := by
 intro v H x h; rw [zcn] at h ⊢
 exact ⟨h.1, hk _ _ _ h.2⟩
theorem ziq {κ : Tm -> zai -> zb8} {o : Oper} {l : List Oper} {tm : Tm} {H : zai} : zxo C φ all n κ (o :: l) tm H = ob (zbd o.guard all tm) fun w => if w = true then
   (zj0 φ ((aop o.op).f C (.now tm) H) H fun v H' => zis C o.type v fun v => zxo C φ all n κ l (putA n tm o.dst v) H') else zxo C φ all n κ l (putA n tm o.dst zbr) H := by
 show (ob (zbd o.guard all tm) fun w => Bool.rec (motive := fun _ => zb8) _ _ w) = _
 congr 1; funext w; rw [zm1]; rfl
theorem zqc (hφ : OLe φ φ') {κ κ' : Tm -> zai -> zb8} (hκ : Le2 κ κ') : ∀ (l : List Oper), Le2 (zxo C φ all n κ l) (zxo C φ' all n κ' l) := by
 intro l; induction l with
 | nil => exact hκ
 | cons o l ih =>
  intro tm H x h; rw [ziq, zad] at h ⊢
  obtain ⟨w, h1, h2⟩ := h
  refine ⟨w, h1, ?_⟩
  split at h2
  ·rename_i e; rw [if_pos e]; exact zvv hφ (zni (k := fun v H' => zxo C φ all n κ l (putA n tm o.dst v) H') (k' := fun v H' => zxo C φ' all n κ' l (putA n tm o.dst v) H') fun v H' y hy => ih _ _ _ hy) h2
  ·rename_i e; rw [if_neg e]; exact ih _ _ _ h2
variable {H : zai} {old : Tm} {olds : List (Nat × List Nat)}
theorem zh5 {k : Tm -> zb8} {i : Nat} {l : List Nat} {tm : Tm} : zci C H all n old olds k (i :: l) tm = ob (ze7 all.toList i) fun o => ob (zbd o.guard all tm) fun w => if w = true then
   (ob ((zb6 o.op).f C (.mixed tm old (zc1 i olds) (zb4 o.op)) H) fun v => zis C o.type v fun v => zci C H all n old olds k l (putA n tm o.dst v)) else zci C H all n old olds k l (putA n tm o.dst zbr) := by
 show (ob (ze7 all.toList i) fun o => ob (zbd o.guard all tm) fun w => Bool.rec (motive := fun _ => zb8) _ _ w) = _
 congr 1; funext o; congr 1; funext w; rw [zm1]; rfl
theorem zkf {k k' : Tm -> zb8} (hk : ∀ tm x, k tm = some x -> k' tm = some x) : ∀ (l : List Nat) tm x, zci C H all n old olds k l tm = some x -> zci C H all n old olds k' l tm = some x := by
 intro l; induction l with
 | nil => exact hk
 | cons i l ih =>
  intro tm x h; rw [zh5, zad] at h ⊢
  obtain ⟨o, h1, h2⟩ := h
  refine ⟨o, h1, ?_⟩
  rw [zad] at h2 ⊢
  obtain ⟨w, h3, h4⟩ := h2
  refine ⟨w, h3, ?_⟩
  split at h4
  ·rename_i e
   rw [if_pos e]; rw [zad] at h4 ⊢
   obtain ⟨v, h5, h6⟩ := h4
   rw [zcn] at h6; exact ⟨v, h5, by rw [zcn]; exact ⟨h6.1, ih _ _ h6.2⟩⟩
  ·rename_i e; rw [if_neg e]; exact ih _ _ h4
theorem zl3 {tm : Tm} {k : zb8} {i : Nat} {l : List Nat} : zfo C H all old olds tm k (i :: l) = ob (ze7 all.toList i) fun o => ob o.dst fun d => ob (zbd o.guard all tm) fun w => if w = true then
   (ob ((zb6 o.op).f C (.mixed tm old (zc1 i olds) (zb4 o.op)) H) fun v => zis C o.type v fun v => ob (tm.get d) fun u => zao (same 10 v u) (zfo C H all old olds tm k l)) else zfo C H all old olds tm k l := by
 show (ob (ze7 all.toList i) fun o => ob o.dst fun d => ob (zbd o.guard all tm) fun w => Bool.rec (motive := fun _ => zb8) _ _ w) = _
 congr 1; funext o; congr 1; funext d; congr 1; funext w; rw [zm1]; rfl
theorem zjn {tm : Tm} {k : zb8} : ∀ (l : List Nat), zfo C H all old olds tm k l = some x -> zos C H all old olds tm l = true /\ k = some x := by
 intro l; induction l with
 | nil => intro h; exact ⟨rfl, h⟩
 | cons i l ih =>
  intro h; rw [zl3, zad] at h; obtain ⟨o, h1, h⟩ := h
  rw [zad] at h; obtain ⟨d, h2, h⟩ := h
  rw [zad] at h; obtain ⟨w, h3, h⟩ := h
  unfold zos; simp only [h1, zac, h2, h3]
  cases w with
  | false => exact ih h
  | true =>
   rw [if_pos rfl, zad] at h; obtain ⟨v, h4, h⟩ := h
   rw [zcn] at h; obtain ⟨h5, h⟩ := h
   rw [zad] at h; obtain ⟨y, h6, h⟩ := h
   rw [zae] at h; simp only [cond_true, h4, zac, h6, h.1]; exact ih h.2
theorem zrd {tm : Tm} {k k' : zb8} (hk : k' = some x) : ∀ (l : List Nat), zfo C H all old olds tm k l = some x -> zfo C H all old olds tm k' l = some x := by
 intro l; induction l with
 | nil => intro _; exact hk
 | cons i l ih =>
  intro h; rw [zl3, zad] at h ⊢
  obtain ⟨o, h1, h⟩ := h
  refine ⟨o, h1, ?_⟩
  rw [zad] at h ⊢
  obtain ⟨d, h2, h⟩ := h
  refine ⟨d, h2, ?_⟩
  rw [zad] at h ⊢
  obtain ⟨w, h3, h⟩ := h
  refine ⟨w, h3, ?_⟩
  split at h
  ·rename_i e
   rw [if_pos e]; rw [zad] at h ⊢
   obtain ⟨v, h4, h⟩ := h
   refine ⟨v, h4, ?_⟩
   rw [zcn] at h ⊢
   obtain ⟨h5, h⟩ := h
   refine ⟨h5, ?_⟩
   rw [zad] at h ⊢
   obtain ⟨y, h6, h⟩ := h
   refine ⟨y, h6, ?_⟩
   rw [zae] at h ⊢
   exact ⟨h.1, ih h.2⟩
  ·rename_i e; rw [if_neg e]; exact ih h
theorem ze1 {κ : Tm -> zai -> zb8} {st : zd4} {l : List zd4} {tm : Tm} : zcq C φ all n old olds κ (st :: l) tm H = ob (ze7 all.toList st.heavy) fun o => ob (zbd o.guard all tm) fun w =>
   (fun cont : zab -> zai -> zb8 => if w = true then (zj0 φ ((aop o.op).f C (.mixed tm old (zc1 st.heavy olds) (zb4 o.op)) H) H fun v H' => zis C o.type v fun v => cont v H') else cont zbr H)
   (fun v H' => zfo C H' all old olds (putA n tm o.dst v) (zci C H' all n old olds (fun tm => zcq C φ all n old olds κ l tm H') st.lights (putA n tm o.dst v)) st.again) := by
 show (ob (ze7 all.toList st.heavy) fun o => ob (zbd o.guard all tm) fun w => (fun cont : zab -> zai -> zb8 => Bool.rec (motive := fun _ => zb8) _ _ w) _) = _
 congr 1; funext o; congr 1; funext w; cases w <;> rfl
theorem zj7 (hφ : OLe φ φ') {κ κ' : Tm -> zai -> zb8} (hκ : Le2 κ κ') : ∀ (l : List zd4), Le2 (zcq C φ all n old olds κ l) (zcq C φ' all n old olds κ' l) := by
 intro l; induction l with
 | nil => exact hκ
 | cons st l ih =>
  intro tm H x h; rw [ze1, zad] at h ⊢
  obtain ⟨o, h1, h⟩ := h
  refine ⟨o, h1, ?_⟩
  rw [zad] at h ⊢
  obtain ⟨w, h2, h⟩ := h
  refine ⟨w, h2, ?_⟩
  have cont : ∀ v H' y, zfo C H' all old olds (putA n tm o.dst v) (zci C H' all n old olds (fun tm => zcq C φ all n old olds κ l tm H') st.lights (putA n tm o.dst v)) st.again = some y →
    zfo C H' all old olds (putA n tm o.dst v) (zci C H' all n old olds (fun tm => zcq C φ' all n old olds κ' l tm H') st.lights (putA n tm o.dst v)) st.again = some y := by
   intro v H' y hy; exact zrd (zkf (fun tm x hx => ih _ _ _ hx) _ _ _ (zjn _ hy).2) _ hy
  simp only [] at h ⊢
  split at h
  ·rename_i e; rw [if_pos e]; exact zvv hφ (zni cont) h
  ·rename_i e; rw [if_neg e]; exact cont _ _ _ h
theorem zoc (hφ : OLe φ φ') {κ κ' : Tm -> zai -> zb8} (hκ : Le2 κ κ') {fn id : Nat} {draw : Bool} : Le2 (zne C φ fn n κ id all draw) (zne C φ' fn n κ' id all draw) := by
 intro tm H x h
 cases draw with
 | false => exact zqc hφ hκ _ _ _ _ h
 | true =>
  have h : (ob (ob (C.plans.get fn) fun t => t.get id) fun p => zao (zjt all p) (zci C H all n tm.cut p.olds (fun tm' => zcq C φ all n tm.cut p.olds κ p.stages tm' H) p.first tm.cut)) = some x := h
  show (ob (ob (C.plans.get fn) fun t => t.get id) fun p => zao (zjt all p) (zci C H all n tm.cut p.olds (fun tm' => zcq C φ' all n tm.cut p.olds κ' p.stages tm' H) p.first tm.cut)) = some x
  rw [zad] at h ⊢
  obtain ⟨p, h1, h⟩ := h
  refine ⟨p, h1, ?_⟩
  rw [zae] at h ⊢
  exact ⟨h.1, zkf (fun tm x hx => zj7 hφ hκ _ _ _ _ hx) _ _ _ h.2⟩
end
end Go.Am
