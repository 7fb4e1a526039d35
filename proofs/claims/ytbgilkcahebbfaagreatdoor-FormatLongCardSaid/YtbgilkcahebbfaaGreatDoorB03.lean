/- Maps, conversions, appends. -/
import Derived.AtR
import Derived.Orders
import Derived.Test.YtbgilkcahebbfaaGreatDoorB02
set_option linter.all false
noncomputable section
namespace Go.Am
open Go Go.RowKit
section
variable {P : Program} {C : Ctx} {B N : Nat} {μ : Mu} {H H' : zaf} {w : World}
variable {e : Env} {ρ : Operand -> Value} {dst : Option Tmp} {type : TypeId} {pos : String} {after : Array Edge} {guard : Option (Nat × Bool)} {v : zab}
def z7i (μ : Mu) (p : zab × zab) (e : MapEntry) : Prop := zan μ p.1 e.key /\ zan μ p.2 e.val
theorem zr1 {n : Nat} {a b : zab} {va vb : Value} (ha : zan μ a va) (hb : zan μ b vb) (h : zhd a b = some true) : Instr.sameBits n vb va = true := by
 rcases zfy h with ⟨k, x, y, rfl, rfl, hr⟩ | ⟨x, y, rfl, rfl, hr⟩ | ⟨x, y, rfl, rfl, hr⟩ <;> rw [zan] at ha <;> rw [zan] at hb
 ·have : x = y := by simpa using hr.symm
  rw [ha, hb, this]; simp [Instr.sameBits]
 ·obtain ⟨s, rfl, rfl⟩ := ha
  obtain ⟨u, rfl, rfl⟩ := hb
  have h1 := zky ((zek _ _).1 hr.symm)
  rw [h1]; have h2 : (u == u) = true := by
   show (u.data == u.data) = true
   simp
  simp only [Instr.sameBits, h2]
 ·have : x = y := by simpa using hr.symm
  rw [ha, hb, this]; simp [Instr.sameBits]
theorem zrv {n : Nat} : ∀ {x y : List zab} {vx vy : List Value}, zbk μ x vx -> zbk μ y vy -> zju x y = some true -> vy.length = vx.length /\ ((vy.zip vx).all fun (a, b) => Instr.sameBits n a b) = true
 | [], [], vx, vy, hx, hy, _ => by
  rw [zbk] at hx hy; subst hx; subst hy; exact ⟨rfl, rfl⟩
 | a :: x, b :: y, vx, vy, hx, hy, h => by
  simp only [zju, zad] at h; obtain ⟨r, hr, s, hs, h⟩ := h
  cases r <;> cases s <;> simp at h
  rw [zbk] at hx hy; obtain ⟨va, rx, rfl, h1, h2⟩ := hx
  obtain ⟨vb, ry, rfl, h3, h4⟩ := hy
  obtain ⟨g1, g2⟩ := zrv (n := n) h2 h4 hs
  exact ⟨by simp [g1], by rw [List.zip_cons_cons, ybh, g2]; simp [zr1 h1 h3 hr]⟩
 | [], _ :: _, _, _, _, _, h => by cases h
 | _ :: _, [], _, _, _, _, h => by cases h
theorem z59 {a b : zab} {va vb : Value} (ha : zan μ a va) (hb : zan μ b vb) (h : ze7 a b = some true) : Instr.sameBits 10000 vb va = true := by
 rcases zhc h with ⟨x, y, rfl, rfl, h⟩ | ⟨_, h⟩
 ·rw [zan] at ha hb
  obtain ⟨cx, rfl, hx⟩ := ha
  obtain ⟨cy, rfl, hy⟩ := hb
  obtain ⟨g1, g2⟩ := zrv (n := 9999) hx hy h
  rw [Instr.sameBits]; simp only [yca] at g1; rw [g2, Bool.and_true, beq_iff_eq]; exact g1
 ·exact zr1 ha hb h
theorem zt3 {k v : zab} {kv vv : Value} (hk : zan μ k kv) (hv : zan μ v vv) {F : List MapEntry -> Nat -> Sem (Option (Nat × Value))} (hF0 : ∀ i, (F [] i).run P w = .ok none w)
  (hF1 : ∀ (p : zab) (e : MapEntry) (es : List MapEntry) (i : Nat) (q : Bool), zan μ p e.key -> ze7 k p = some q -> (F (e :: es) i).run P w = if q then .ok (some (i, e.val)) w else (F es (i + 1)).run P w) {l : List (zab × zab)} {es : List MapEntry} (hl : zex (z7i μ) l es) :
  ∀ {i : Nat} {l' : List (zab × zab)}, zd1 k v l = some l' →
   (∃ (j : Nat) (e0 : MapEntry), (F es i).run P w = .ok (some (i + j, e0.val)) w /\ es[j]? = some e0 /\ Instr.sameBits 10000 e0.key kv = true /\ zex (z7i μ) l' (es.set j { e0 with key := kv, val := vv })) ∨
   ((F es i).run P w = .ok none w /\ ∀ born, zex (z7i μ) l' (es ++ [⟨kv, vv, born⟩])) := by
 induction hl with
 | nil => intro i l' h; rw [zd1] at h; cases h; exact .inr ⟨hF0 i, fun born => .cons ⟨hk, hv⟩ .nil⟩
 | @cons p e l es hpe hrest ih =>
  intro i l' h; rw [zd1, zad] at h; obtain ⟨q, hq, h⟩ := h
  have h1 := hF1 p.1 e es i q hpe.1 hq
  cases q with
  | true =>
   rw [cond_true] at h
   cases h; refine .inl ⟨0, e, by rw [h1]; simp, by simp, z59 hk hpe.1 hq, ?_⟩
   exact .cons ⟨hk, hv⟩ hrest
  | false =>
   rw [cond_false, zad] at h; obtain ⟨r, hr, h⟩ := h
   cases h; simp only [yar, if_false] at h1; rcases ih (i := i + 1) hr with ⟨j, e0, h2, h3, h4, h5⟩ | ⟨h2, h3⟩
   ·refine .inl ⟨j + 1, e0, ?_, by simpa using h3, h4, ?_⟩
    ·rw [h1, h2, show i + 1 + j = i + (j + 1) by omega]
    ·exact .cons hpe h5
   ·exact .inr ⟨by rw [h1]; exact h2, fun born => .cons hpe (h3 born)⟩
theorem z9b (hT : zc6 P C) {t : Nat} {ty : ATy} (hty : C.tys.get t = some ty) (hkt : zjv C ty = true) {k v : zab} {kv vv : Value} (hfit : zfj C ty k = true) (hk : zan μ k kv) (hv : zan μ v vv) {l l' : List (zab × zab)} {es : List MapEntry} (hl : zex (z7i μ) l es) (h : zd1 k v l = some l') :
  (∃ (j : Nat) (e0 : MapEntry), (Instr.findKey t kv es).run P w = .ok (some (j, e0.val)) w /\ es[j]? = some e0 /\ Instr.sameBits 10000 e0.key kv = true /\ zex (z7i μ) l' (es.set j { e0 with key := kv, val := vv })) ∨
   ((Instr.findKey t kv es).run P w = .ok none w /\ ∀ born, zex (z7i μ) l' (es ++ [⟨kv, vv, born⟩])) := by
 have hF := hT.facts hty
 rcases zj9 hkt with hkd | ⟨fs, hkd, hfs, hok, hfl⟩
 ·obtain ⟨D, hD⟩ := hF.und
  have hfits := zod hF hD hkd (zi9 hkd hfit)
  have hfk : ∀ (q : Option (Nat × Value)), Instr.findNow D kv es 0 = some q -> (Instr.findKey t kv es).run P w = .ok q w := by
   intro q hq; unfold Instr.findKey; simp only [Sem.run_bind, za7 hD, Result.andThen_ok, hq, Sem.run_pure]
  have back : ∀ (q : Option (Nat × Value)), ((fun es i => (match Instr.findNow D kv es i with | some r => pure r | none => stuck "" : Sem (Option (Nat × Value)))) es 0).run P w = .ok q w -> Instr.findNow D kv es 0 = some q := by
   intro q hq; simp only [] at hq
   cases hn : Instr.findNow D kv es 0 with
   | none => rw [hn] at hq; simp [stuck] at hq
   | some r => rw [hn] at hq; simp only [Sem.run_pure] at hq; injection hq with h1 _; rw [h1]
  have hF1 : ∀ (p : zab) (e : MapEntry) (es : List MapEntry) (i : Nat) (q : Bool), zan μ p e.key -> ze7 k p = some q -> ((fun es i => (match Instr.findNow D kv es i with | some r => pure r | none => stuck "" : Sem (Option (Nat × Value)))) (e :: es) i).run P w = if q then .ok (some (i, e.val)) w else ((fun es i => (match Instr.findNow D kv es i with | some r => pure r | none => stuck "" : Sem (Option (Nat × Value)))) es (i + 1)).run P w := by
   intro p e es i q hp hq; have h1 := zt5 hfits hk hp (hfits.eq1 hq)
   simp only [Instr.findNow, h1]
   cases q <;> rfl
  rcases zt3 (P := P) (w := w) (F := fun es i => match Instr.findNow D kv es i with | some r => pure r | none => stuck "") hk hv (fun i => rfl) hF1 hl (i := 0) h with ⟨j, e0, g1, g2, g3, g4⟩ | ⟨g1, g2⟩
  ·refine .inl ⟨j, e0, ?_, g2, g3, g4⟩
   have := hfk _ (back _ g1)
   simpa using this
  ·exact .inr ⟨hfk _ (back _ g1), g2⟩
 ·obtain ⟨x, rfl, hx⟩ := zic hkd hfs hfit
  obtain ⟨g, hg, rfl⟩ := zey hF hfs
  rw [zli hg]; have hF1 : ∀ (p : zab) (e : MapEntry) (es : List MapEntry) (i : Nat) (q : Bool), zan μ p e.key -> ze7 (.agg x) p = some q -> (Instr.findAsking t kv (e :: es) i).run P w = if q then .ok (some (i, e.val)) w else (Instr.findAsking t kv es (i + 1)).run P w := by
   intro p e es i q hp hq; have h1 := zry (P := P) (w := w) hT hty hfs hok hfl hx hk hp hq
   simp only [Instr.findAsking, Sem.run_bind, h1, Result.andThen_ok]
   cases q <;> rfl
  rcases zt3 (P := P) (w := w) (F := fun es i => Instr.findAsking t kv es i) hk hv (fun i => rfl) hF1 hl (i := 0) h with ⟨j, e0, g1, g2, g3, g4⟩ | ⟨g1, g2⟩
  ·exact .inl ⟨j, e0, by simpa using g1, g2, g3, g4⟩
  ·exact .inr ⟨g1, g2⟩
theorem zgw {r : Nat} {o o' : Obj} (h : w.heap[r]? = some o) (hc : ∀ a b c, o ≠ .cells a b c) : (setObj r o').run P w = .ok () (World.setBlk w r o') := by
 simp only [setObj, Sem.run, h]; rfl
theorem zyi (hT : zc6 P C) (hbase : B <= C.base) (hH : zbf B N μ H w) (hE : zhp μ e ρ) {t : Nat} {m k x : Operand} (h : zkb t m k x C e H = .val v H') :
  ∃ w', (Instr.mapUpdate t (ρ m) (ρ k) (ρ x)).run P w = .ok () w' /\ zbf B N μ H' w' /\ Below N w w' /\ v = zbh := by
 have h := zd3 h
 simp only [zad, zae, zk0, ybq] at h; obtain ⟨ty, hty, ke, hke, kty, hkty, hkd, mv, hm, b, rfl, hbb, l, hl, kv, hk, hfit, xv, hx, l', hl', h⟩ := h
 cases h; have hKF := hT.facts hkty
 have hmv := hE _ _ hm
 rw [zan] at hmv; obtain ⟨i, hi, hmv⟩ := hmv
 obtain ⟨es, clock, lp, h1, hperm, h2⟩ := hH.mapAt hl hi
 obtain ⟨lp', hlp', hperm'⟩ := zxt hperm hl'
 have hb : B <= b := by
  have : ¬ b < C.base := fun k => by rw [zc8.2 k] at hbb; cases hbb
  omega
 have hown := hH.own b i hb hi
 have hu := z4p (hT.facts hty) hke
 have hck := zpb (P := P) (w := w) (empty := false) (d := 9998) (kv := ρ k) hT hkty hkd hfit (hE _ _ hk)
 rcases z9b (P := P) (w := w) hT hkty hkd hfit (hE _ _ hk) (hE _ _ hx) h2 hlp' with ⟨j, e0, h3, h4, h5, h6⟩ | ⟨h3, h4⟩
 ·have h4' : es[j]? = some e0 := by simpa using h4
  have hj : j < es.size := (yaf.1 h4').1
  refine ⟨World.setBlk w i.b (.map (es.modify j fun e => { e with key := ρ k, val := ρ x }) clock), ?_, hH.upd (zjk hl) hi hb ⟨_, clock, lp', rfl, hperm', ?_⟩, zc0 hown.1, rfl⟩
  ·have h7 := h3
   simp only [Instr.mapUpdate, Sem.run_bind, za7 hu, Result.andThen_ok, hmv, zii h1 (by simp), hck, h7, h4', Option.map_some, Option.getD_some, Instr.keyThatStays, h5, if_true, Sem.run_pure, zgw h1 (by simp)]
  ·have : (es.modify j fun e => { e with key := ρ k, val := ρ x }).toList = es.toList.set j { e0 with key := ρ k, val := ρ x } := by
    apply List.ext_getElem?
    intro n; rw [Array.getElem?_toList, Array.getElem?_modify, ybx]; by_cases e : j = n
    ·subst e
     rw [if_pos rfl, if_pos rfl, h4', if_pos (by simpa using hj)]; rfl
    ·rw [if_neg e, if_neg e]; simp
   rw [this]; exact h6
 ·refine ⟨World.setBlk w i.b (.map (es.push { key := ρ k, val := ρ x, born := clock }) (clock + 1)), ?_, hH.upd (zjk hl) hi hb ⟨_, clock + 1, lp', rfl, hperm', ?_⟩, zc0 hown.1, rfl⟩
  ·have h7 := h3
   simp only [Instr.mapUpdate, Sem.run_bind, za7 hu, Result.andThen_ok, hmv, zii h1 (by simp), hck, h7, zgw h1 (by simp)]
  ·rw [Array.toList_push]; exact h4 clock
theorem zks (hT : zc6 P C) (hbase : B <= C.base) (hH : zbf B N μ H w) (hE : zhp μ e ρ) {t : Nat} {m k x : Operand} (h : zkb t m k x C e H = .val v H') :
  z2o P B N μ w ρ ⟨dst, .mapUpdate t m k x, type, pos, after, guard⟩ v H' /\ z2o P B N μ w ρ ⟨dst, .insert t m k x, type, pos, after, guard⟩ v H' := by
 obtain ⟨w', h1, h2, h3, rfl⟩ := zyi (P := P) hT hbase hH hE h
 constructor
 all_goals
  refine ⟨undef, w', μ, .inr ⟨?_, rfl⟩, μ.le_refl, h2, h3, zxi⟩
  simp only [execOp, Sem.run_bind, h1, Result.andThen_ok, Sem.run_pure]
theorem zpe (s : ByteArray) : zbk μ (zfm (zb0 s)) (s.data.map fun b => Value.int .u8 b.toNat).toList := by
 refine zbk.mk (by simp [zfm, zb0]) fun j a v ha hv => ?_
 unfold zfm zb0 at ha; simp only [yav, Array.toList_map] at ha hv
 cases h : s.data.toList[j]? with
 | none => rw [h] at ha; cases ha
 | some b =>
  rw [h] at ha hv; simp at ha hv; rw [<- ha, <- hv, zan]
theorem zkc (l : List Nat) : (zfm l).length = l.length := by simp [zfm]
theorem zbf.newLoose (hH : zbf B N μ H w) {l : List zab} {cs : Array Value} {lo : Lo} (hlen : l.length <= cs.size) (hl : ∀ (j : Nat) a, l[j]? = some a -> ∃ v, cs[j]? = some v /\ zan μ a v) (elem : TypeId) (fr : Nat × Nat) (hfr : fr.2 <= fr.1 \/ cs.size <= fr.1) (hmod : ∀ t, lo = .ty t -> elem = t) :
  zbf B N (μ.ext H.next ⟨w.heap.size, false, lo.es, cs.size, false⟩) (za0 H l (some lo)) (w.alloc (.cells cs elem fr)) := by
 refine hH.newBlk rfl rfl ⟨cs, elem, fr, rfl, by rw [za1]; exact hlen, .inr hfr, fun j v hv => ?_, rfl, rfl, rfl, hmod⟩
 rw [Tr.get_ofList] at hv; obtain ⟨u, hu, hr⟩ := hl j v hv
 exact ⟨by rw [za1]; exact (yad.1 hv).1, u, hu, hr.mono hH.ext_le.f _ _⟩
theorem zzkl (need old : Nat) (elem : TypeId) (t : Nat) : need <= (Question.appendCap need old elem).cut t := by simp [Question.cut]
theorem zmj (need old : Nat) (elem : TypeId) : ∃ c, need <= c /\ (choose (.appendCap need old elem)).run P w = .ok c w.drew := by
 refine ⟨(Question.appendCap need old elem).cut (w.tape w.drawn (.appendCap need old elem)), zzkl _ _ _ _, ?_⟩
 rw [run_choose]; simp [Question.forced]
theorem zgy : Below N w w.drew := (Below.refl N w).drew
theorem zpl (hH : zbf B N μ H w) {el : Nat} (s : ByteArray) : ∃ w' cap, (Conv.stringToBytes el s).run P w = .ok (.slice (some ⟨w.heap.size, 0, none⟩) s.size cap) w' /\ s.size <= cap ∧
  zbf B N (μ.ext H.next ⟨w.heap.size, false, 1, cap, false⟩) (za0 H (zfm (zb0 s)) (some (.ty el))) w' /\ Below N w w' := by
 obtain ⟨cap, hcap, hc⟩ := zmj (P := P) (w := w) s.size 0 el
 let cs : Array Value := (s.data.map fun b => Value.int .u8 b.toNat) ++ Array.replicate (cap - s.size) (.int .u8 0)
 have hsz : cs.size = cap := by simp [cs]; show s.data.size + (cap - s.size) = cap; have : s.data.size = s.size := rfl; omega
 have hdat : (s.data.map fun b => Value.int .u8 b.toNat).size = s.size := by simp
 have hpush : ∀ X : Obj, (w.drew.heap.push X)[w.heap.size]? = some X := fun X => by show (w.heap.push X)[w.heap.size]? = _; simp
 refine ⟨w.drew.alloc (.cells cs el (cap, cap + 1)), cap, ?_, hcap, ?_, (zgy).trans (zcd (by simpa using hH.size) _)⟩
 ·unfold Conv.stringToBytes
  have hfz : (w.drew.alloc (.cells cs el)).freeze ⟨w.heap.size, cap, none⟩ 1 = w.drew.alloc (.cells cs el (cap, cap + 1)) := by
   unfold World.freeze; rw [if_neg (by simp)]
   unfold World.alloc; congr 1
   apply Array.ext_getElem?
   intro k; rw [Array.getElem?_modify]; by_cases e : k = w.heap.size
   ·subst e; rw [if_pos rfl, hpush, hpush]; rfl
   ·rw [if_neg (fun h => e h.symm)]
    simp only [Array.getElem?_push]; rw [if_neg (by simpa using e), if_neg (by simpa using e)]
  have hshape : (w.drew.alloc (.cells cs el)).shape? w.heap.size = some (el, cs.size) := by
   unfold World.shape? World.alloc
   simp only [hpush]
  simp only [Sem.run_bind, hc, Result.andThen_ok, zei, markStringish, run_shape]; have h2 : (w.drew.alloc (.cells cs el)).shape? w.drew.heap.size = some (el, cap) := by rw [<- hsz]; exact hshape
  simp only [show ((s.data.map fun b => Value.int .u8 (b.toNat : Int)) ++ Array.replicate (cap - s.size) (Value.int .u8 0)) = cs from rfl, h2, run_freeze, Result.andThen_ok, Sem.run_pure]
  rw [show (⟨w.drew.heap.size, cap, none⟩ : Addr) = ⟨w.heap.size, cap, none⟩ from rfl, hfz]
  rfl
 ·have := (hH.drew).newLoose (l := zfm (zb0 s)) (cs := cs) (lo := .ty el) (by rw [zkc, zdu, hsz]; exact hcap) (fun j a ha => ?_) el (cap, cap + 1) (.inr (by rw [hsz]; exact yal _)) (fun t e => by cases e; rfl)
  ·rw [hsz] at this; exact this
  ·obtain ⟨u, hu, hr⟩ := (zpe (μ := μ) s).get ha
   refine ⟨u, ?_, hr⟩
   have hj : j < s.size := by
    have := (yad.1 ha).1
    rw [zkc, zdu] at this; exact this
   show ((s.data.map fun b => Value.int .u8 (b.toNat : Int)) ++ _)[j]? = _
   rw [Array.getElem?_append_left (by rw [hdat]; exact hj)]
   simpa using hu
theorem z1p (hT : zc6 P C) (hH : zbf B N μ H w) (hE : zhp μ e ρ) {s d : Nat} {x : Operand} (h : zf5 s d x C e H = .val v H') : z2o P B N μ w ρ ⟨dst, .convert s d x, type, pos, after, guard⟩ v H' := by
 unfold zf5 at h; split at h
 ·rename_i u hu
  injection h with h1 h2
  subst h1 h2
  exact (z30 hT hH hE hu).hv hH
 ·have h := zd3 h
  simp only [zad, zae, zev, zdp, za1] at h; obtain ⟨sy, hsy, ty, hty, el, hel, et, het, k, hk, rfl, a, ha, l, rfl, h⟩ := h
  cases h; have hv := hE _ _ ha
  rw [zan] at hv; obtain ⟨str, hxv, rfl⟩ := hv
  obtain ⟨w', cap, h1, h2, h3, h4⟩ := zpl (P := P) (el := el) hH str
  obtain ⟨su, hsu⟩ := (hT.facts hsy).und
  refine ⟨.slice (some ⟨w.heap.size, 0, none⟩) str.size cap, w', _, .inl ?_, hH.ext_le, h3, h4, ?_⟩
  ·have h5 : (convert s d (ρ x)).run P w = .ok (.slice (some ⟨w.heap.size, 0, none⟩) str.size cap) w' := by
    rw [hxv]; simp only [convert, Sem.run_bind, za7 hsu, za7 (zc1 (hT.facts hty) hel), Result.andThen_ok]
    cases su <;> simp only [za7 (zwu (hT.facts het) hk), Result.andThen_ok, h1]
   simp only [execOp, Sem.run_bind, h5, Result.andThen_ok, Sem.run_pure]
  ·rw [zan, zdu]
   exact .inl ⟨_, cap, Mu.ext_same, rfl, h2, (fun h => by cases h), (fun _ => by simp)⟩
end
end Go.Am
namespace Go.Am
open Go Go.RowKit
section
variable {P : Program} {C : Ctx} {B N : Nat} {μ : Mu} {H H' : zaf} {w : World}
variable {e : Env} {ρ : Operand -> Value} {dst : Option Tmp} {type : TypeId} {pos : String} {after : Array Edge} {guard : Option (Nat × Bool)} {v : zab}
theorem zbf.drop (hH : zbf B N μ H w) (b : Nat) (hb : ∀ x t, μ.pd b ≠ some (x, t)) : zbf B N μ ⟨H.next, H.t.del b⟩ w := by
 have hget : ∀ a, (H.t.del b).get a = if a = b then none else H.t.get a := fun a => Tr.get_del _ _ _
 have key : ∀ a x, (H.t.del b).get a = some x -> a ≠ b /\ H.t.get a = some x := by
  intro a x h; rw [hget] at h; split at h
  ·cases h
  ·exact ⟨‹_›, h⟩
 refine ⟨hH.base, hH.glob, fun a x i ha hx => hH.low a x i ha (key a x hx).2, hH.next, hH.size, fun a ha => ⟨(hH.fresh a ha).1, ?_⟩, fun a x i hx => hH.blk a x i (key a x hx).2, hH.own, fun a c x y i j hx hy => hH.inj a c x y i j (key a x hx).2 (key c y hy).2, fun a x t ha => ?_⟩
 rotate_left
 ·obtain ⟨h1, h2, h3⟩ := hH.pnd a x t ha
  exact ⟨h1, by rw [hget, if_neg fun e => hb x t (by rw [<- e]; exact ha)]; exact h2, h3⟩
 rw [hget]; split
 ·rfl
 ·exact (hH.fresh a ha).2
theorem zbf.adopt (hH : zbf B N μ H w) {y : zak} {o' : Obj} {i : BI} (hN : N <= i.b /\ i.b < w.heap.size /\ i.ro = false) (hfree : ∀ a x j, B <= a -> H.t.get a = some x -> μ a = some j -> j.b ≠ i.b) (hy : znt (μ.ext H.next i) i y o') :
  zbf B N (μ.ext H.next i) (Am.newBlk H y) (World.setBlk w i.b o') := by
 have hle : μ.le (μ.ext H.next i) := hH.ext_le
 have hget : ∀ a, (Am.newBlk H y).t.get a = if a = H.next then some y else H.t.get a := fun a => Tr.get_set _ _ _ _
 have hsz : (World.setBlk w i.b o').heap.size = w.heap.size := by simp [World.setBlk]
 refine ⟨hH.base, ?_, ?_, ?_, ?_, ?_, ?_, ?_, ?_, fun a x t ha => ?_⟩
 ·intro g hg; rw [Mu.ext_get, if_neg (by have := hH.next; have := hH.base; omega)]; exact hH.glob g hg
 ·intro a x j ha hx hj
  rw [hget, if_neg (by have := hH.next; omega)] at hx
  rw [Mu.ext_get, if_neg (by have := hH.next; omega)] at hj
  exact hH.low a x j ha hx hj
 ·have := hH.next; show B <= H.next + 1; omega
 ·rw [hsz]; exact hH.size
 ·intro a ha
  have ha' : H.next + 1 <= a := ha
  rw [hget, if_neg (by omega)]
  rw [Mu.ext_get, if_neg (by omega)]
  exact hH.fresh a (by omega)
 ·intro a x j hx h1
  rw [hget] at hx; rw [Mu.ext_get] at h1; split at hx
  ·rename_i e; subst e; cases hx
   rw [if_pos rfl] at h1; cases h1; exact ⟨o', by rw [zfv, if_pos ⟨rfl, hN.2.1⟩], hy⟩
  ·rename_i hne
   rw [if_neg hne] at h1; obtain ⟨q, h2, h3⟩ := hH.blk a x j hx h1
   refine ⟨q, ?_, h3.mono hle⟩
   rw [zfv, if_neg]
   ·exact h2
   ·rintro ⟨e, _⟩
    by_cases hb : B <= a
    ·exact hfree a x j hb hx h1 e
    ·have h5 := (hH.low a x j (by omega) hx h1).1
     omega
 ·intro a j ha hj
  rw [Mu.ext_get] at hj; rw [hsz]; split at hj
  ·cases hj; exact hN
  ·exact hH.own a j ha hj
 ·intro a b x z j k hx hz hj hk ha hb hjk
  rw [hget] at hx hz; rw [Mu.ext_get] at hj hk; by_cases ea : a = H.next
  ·by_cases eb : b = H.next
   ·rw [ea, eb]
   ·exfalso
    rw [if_pos ea] at hj; rw [if_neg eb] at hk hz
    cases hj; exact hfree b z k hb hz hk hjk.symm
  ·by_cases eb : b = H.next
   ·exfalso
    rw [if_neg ea] at hj hx; rw [if_pos eb] at hk
    cases hk; exact hfree a x j ha hx hj hjk
   ·rw [if_neg ea] at hx hj; rw [if_neg eb] at hz hk
    exact hH.inj a b x z j k hx hz hj hk ha hb hjk
 ·obtain ⟨h1, h2, h3⟩ := hH.pnd a x t ha
  have hne : a ≠ H.next := fun e => by rw [e, (hH.fresh _ (yal _)).2] at h2; cases h2
  exact ⟨by rw [Mu.ext_get, if_neg hne]; exact h1, by rw [hget, if_neg hne]; exact h2, h3⟩
theorem zzan {a : zab} {x : Value} (hx : zan μ a x) {n : Nat} (h : zo2 a = some n) : (Builtin.lenOf x).run P w = .ok n w := by
 unfold zo2 at h; split at h
 ·rename_i s hs
  cases h; rw [zdq] at hs; subst hs; rw [zan] at hx; rcases hx with ⟨i, c, _, rfl, _⟩ | ⟨_, k, _, A, _, rfl, _⟩
  ·rfl
  ·rw [k]; rfl
 ·split at h
  ·rename_i s hs
   rw [zdp] at hs; subst hs; rw [zan] at hx; obtain ⟨str, rfl, rfl⟩ := hx
   rw [za1, zdu] at h
   cases h; rfl
  ·rw [zae, zcy, zk9.2.1] at h
   obtain ⟨rfl, h⟩ := h
   cases h; rw [zan] at hx; subst hx; rfl
theorem zy3 (hH : zbf B N μ H w) {a : zab} {x : Value} (hx : zan μ a x) {size n : Nat} {l : List zab} (hn : zo2 a = some n) (h : zjx H size n a = some l) :
  ∃ vs : List Value, (Builtin.firstCells size n x).run P w = .ok vs.toArray w /\ zbk μ l vs := by
 unfold zjx at h; split at h
 ·rename_i s hs
  rw [zdq] at hs; subst hs; simp only [zad] at h; obtain ⟨c, hc, h⟩ := h
  rw [zan] at hx; rcases hx with ⟨i, c', hi, rfl, _⟩ | ⟨_, k, _, A, _, rfl, _⟩
  rotate_left
  ·have hn0 : n = 0 := by
    have hn : some s.2.2.1 = some n := hn
    exact (ybj hn).symm.trans k
   subst hn0; rw [Nat.zero_mul] at h
   cases h; exact ⟨[], by show (loadCells A (0 * size)).run P w = _; rw [Nat.zero_mul]; rfl, .nil⟩
  obtain ⟨vs, _, h2, h3, _⟩ := hH.manyAt (P := P) hc hi h
  exact ⟨vs, h3, h2⟩
 ·split at h
  ·rename_i s hs
   rw [zdp] at hs; subst hs
   cases h; rw [zan] at hx; obtain ⟨str, rfl, rfl⟩ := hx
   refine ⟨((str.extract 0 n).data.map fun b => Value.int .u8 b.toNat).toList, by rw [Array.toArray_toList]; rfl, ?_⟩
   have h1 : zth (zb0 str) n = zb0 (str.extract 0 n) := by rw [zff, zlj]; simp
   rw [h1]; exact zpe _
  ·rw [zae, zcy, zk9.2.1] at h
   obtain ⟨rfl, h⟩ := h
   cases h; rw [zan] at hx; subst hx; exact ⟨[], rfl, .nil⟩
theorem zzbr (newLen : Nat) : ∀ (r c : Nat), c < newLen -> Builtin.growBy newLen r c <= newLen + (newLen + 768) / 4 := by
 intro r; induction r with
 | zero => intro c h; rw [Builtin.growBy]; omega
 | succ r ih =>
  intro c h; rw [Builtin.growBy, if_neg (by omega)]
  by_cases h2 : c + (c + 768) / 4 < newLen
  ·exact ih _ h2
  ·cases r with
   | zero => rw [Builtin.growBy]; omega
   | succ r => rw [Builtin.growBy, if_pos (by omega)]; omega
theorem z50 (need cap : Nat) (h : cap < need) : Builtin.nextslicecap need cap <= 2 * need + 192 := by
 unfold Builtin.nextslicecap; split
 ·omega
 ·split
  ·omega
  ·have := zzbr need 4 cap h; omega
structure zzu (et : ATy) (len cap n : Nat) (new : List zab) : Prop where
 small : len + n + cap < 1000000000
 bytes : (len + n + cap) * et.bytes < 1000000000
 b : et.bytes < 1000000000
 size : et.size ≠ 0
 new : new.length = n * et.size
 zero : et.zero.length = et.size
theorem zl3 {et : ATy} {len cap n : Nat} {new : List zab} (h : zm2 et len cap n new = true) : zzu et len cap n new := by
 unfold zm2 at h; simp only [yac, zc8, ybq, beqf, zcy, za1] at h; obtain ⟨⟨⟨⟨⟨h1, h2⟩, h3⟩, h4⟩, h5⟩, h6⟩ := h
 exact ⟨h1, h2, h3, h4, h5, h6⟩
theorem zk6 (z : Array Value) (n : Nat) : (Builtin.zeroCells z n).size = n * z.size := by simp [Builtin.zeroCells]
theorem zf3 {st ut el : Nat} {u : TypeDesc} {et : ATy} (hst : P.underlying st = some (.slice el)) (hut : P.underlying ut = some u) (hu : ∀ k, u ≠ .int k) (hF : zdg P el et) {base : Option Addr} {len cap n : Nat} {x : Value} {tys : Array TypeId} {args : Array Value}
  (ht0 : tys[0]? = some st) (ht1 : tys[1]? = some ut) (ha0 : args[0]? = some (.slice base len cap)) (ha1 : args[1]? = some x) (hn : (Builtin.lenOf x).run P w = .ok n w) (hlt : ¬ len + n <= cap)
  (hs : len + n < 1000000000) (hb : (len + n) * et.bytes < 1000000000) (hbb : et.bytes < 1000000000) {old new : Array Value} {z : Value} (hold : (Builtin.firstCells et.size len (.slice base len cap)).run P w.drew = .ok old w.drew) (hnew : (Builtin.firstCells et.size n x).run P w.drew = .ok new w.drew)
  (hz : ∀ w, (zeroValue el).run P w = .ok z w) :
  ∃ newCap, len + n <= newCap /\ (Builtin.append_ tys type args).run P w = .ok (.slice (some ⟨w.heap.size, 0, none⟩) (len + n) newCap) (w.drew.alloc (.cells (old ++ new ++ Builtin.zeroCells z.cells (newCap - (len + n))) el)) := by
 obtain ⟨inf, hinf, hsz, hby, _⟩ := hF.info
 obtain ⟨newCap, hcap, hc⟩ := zmj (P := P) (w := w) (len + n) cap el
 refine ⟨newCap, hcap, ?_⟩
 have h1 : ¬ (((len + n : Nat) : Int) > IntKind.i64.max /\ (False \/ et.bytes = 0)) := by
  have : IntKind.i64.max = 9223372036854775807 := by decide
  rw [this]; omega
 have h2 : ¬ Builtin.nextslicecap (len + n) cap * et.bytes > 2 ^ 48 := by
  have h3 := z50 (len + n) cap (by omega)
  have h4 : Builtin.nextslicecap (len + n) cap * et.bytes <= (2 * (len + n) + 192) * et.bytes := yaj _ h3
  have h5 : (2 * (len + n) + 192) * et.bytes = 2 * ((len + n) * et.bytes) + 192 * et.bytes := by rw [yap, yak]
  omega
 unfold Builtin.append_; simp only [ht0, ht1, ha0, ha1, Sem.run_bind, za7 hst, za7 hut, Result.andThen_ok, hF.size, Sem.run_pure]
 cases u <;> first
  | exact absurd rfl (hu _)
  | simp only [yar, if_false, ybm, if_true, hn, if_neg hlt, Result.andThen_ok, zi3 hinf, hby, Sem.run_bind, Sem.run_ite, Sem.run_pure, if_neg h1, if_neg h2, hc, run_askRoom, hold, hnew, hz, zei, World.size_drew]
theorem zfa {st ut el : Nat} {u : TypeDesc} {et : ATy} (hst : P.underlying st = some (.slice el)) (hut : P.underlying ut = some u) (hu : ∀ k, u ≠ .int k) (hF : zdg P el et) {base : Option Addr} {len cap n : Nat} {x : Value} {tys : Array TypeId} {args : Array Value}
  (ht0 : tys[0]? = some st) (ht1 : tys[1]? = some ut) (ha0 : args[0]? = some (.slice base len cap)) (ha1 : args[1]? = some x) (hn : (Builtin.lenOf x).run P w = .ok n w) (hlt : len + n <= cap)
  {new : Array Value} {w' : World} (hnew : (Builtin.firstCells et.size n x).run P w = .ok new w) (hst' : (match base with | some a => storeCells (a.add (len * et.size)) new.toList | none => pure () : Sem Unit).run P w = .ok () w') :
  (Builtin.append_ tys type args).run P w = .ok (.slice base (len + n) cap) w' := by
 unfold Builtin.append_; simp only [ht0, ht1, ha0, ha1, Sem.run_bind, za7 hst, za7 hut, Result.andThen_ok, hF.size, Sem.run_pure]
 cases base with
 | none =>
  have e : w = w' := by simpa using hst'
  subst e
  cases u <;> first
   | exact absurd rfl (hu _)
   | simp only [yar, if_false, ybm, if_true, hn, if_pos hlt, Result.andThen_ok, Sem.run_bind, Sem.run_ite, Sem.run_pure, hnew]
 | some a =>
  simp only [] at hst'
  cases u <;> first
   | exact absurd rfl (hu _)
   | simp only [yar, if_false, ybm, if_true, hn, if_pos hlt, Result.andThen_ok, Sem.run_bind, Sem.run_ite, Sem.run_pure, hnew, hst']
@[simp] theorem Lo.es_sz (n : Nat) : (Lo.sz n).es = n := rfl
@[simp] theorem Lo.es_ty (n : Nat) : (Lo.ty n).es = 1 := rfl
theorem zon (e : Nat) (et : ATy) : (zep e et).es = et.size := by
 unfold zep; rw [zal]; split
 ·rename_i h; rw [yac, zcy] at h; exact h.1.symm
 ·rfl
theorem zzcl {e t : Nat} {et : ATy} (h : zep e et = .ty t) : e = t := by
 unfold zep at h; rw [zal] at h; split at h <;> cases h; rfl
theorem zzak {a b : Lo} : loEq a b = true ↔ a = b := by
 cases a <;> cases b <;> simp [loEq, zcy]
theorem zbf.newGrown (hH : zbf B N μ H w) {et : ATy} {len cap n newCap : Nat} {new old : List zab} {vo vn : List Value} {z : Array Value} (hg : zzu et len cap n new) (hz : zbk μ et.zero z.toList) (hcap : len + n <= newCap) (ho : zbk μ old vo) (hol : old.length = len * et.size) (hn : zbk μ new vn) (el : TypeId) :
  zbf B N (μ.ext H.next ⟨w.heap.size, false, et.size, newCap * et.size, false⟩) (za0 H (old ++ new) (some (zep el et))) (w.alloc (.cells (vo.toArray ++ vn.toArray ++ Builtin.zeroCells z (newCap - (len + n))) el)) := by
 have hzs := hz.length
 simp only [yca] at hzs; have h1 := ho.length
 have h2 := hn.length
 have hsz : (vo.toArray ++ vn.toArray ++ Builtin.zeroCells z (newCap - (len + n))).size = newCap * et.size := by
  simp only [Array.size_append, List.size_toArray, zk6, h1, h2, hol, hg.new, hzs, hg.zero]; rw [<- yap, <- yap]; congr 1; omega
 have := hH.newLoose (l := old ++ new) (cs := vo.toArray ++ vn.toArray ++ Builtin.zeroCells z (newCap - (len + n))) (lo := zep el et) ?_ ?_ el (0, 0) (.inl (yal _)) fun t => zzcl
 ·rw [hsz, zon] at this; exact this
 ·rw [hsz, yah, hol, hg.new, <- yap]; exact yaj _ hcap
 ·intro j a ha
  obtain ⟨v, hv, hr⟩ := (ho.append hn).get ha
  refine ⟨v, ?_, hr⟩
  have hj : j < (vo ++ vn).length := (yad.1 hv).1
  rw [Array.getElem?_append_left (by simpa using hj)]
  simpa using hv
theorem zzi5 (hbase : B <= C.base) (hH : zbf B N μ H w) {et : ATy} {n : Nat} {new : List zab} {s : Nat × Nat × Nat × Nat} (h : zhz C H et n new s = some (v, H')) {i : BI} (hi : μ s.1 = some i) {vs : List Value} (hl : zbk μ new vs) :
  v = .slice s.1 s.2.1 (s.2.2.1 + n) s.2.2.2 /\ ∃ w', (storeCells (Addr.add ⟨i.b, s.2.1, none⟩ (s.2.2.1 * et.size)) vs.toArray.toList).run P w = .ok () w' /\ zbf B N μ H' w' /\ Below N w w' := by
 unfold zhz at h; split at h
 ·cases h
  rw [zbk] at hl; subst hl; exact ⟨rfl, w, rfl, hH, Below.refl _ _⟩
 ·rw [zad] at h
  obtain ⟨H1, h1, h⟩ := h
  cases h; obtain ⟨w', h2, h3, h4⟩ := zxp (P := P) hbase hH h1 hi hl
  rw [zll]; exact ⟨rfl, w', h2, h3, h4⟩
theorem zzdq {b : Nat} {p : Tr zab × Nat × Option Lo} (hH : zbf B N μ H w) (h : zaq H b = some p) {i : BI} (hi : μ b = some i) (hl : p.2.2 = none) : i.tight = true := by
 obtain ⟨o, h2, h3⟩ := hH.blk _ _ _ (zdd h) hi
 obtain ⟨cs, elem, fr, _, _, _, _, h4⟩ := h3
 rw [hl] at h4; exact h4
theorem zyk {b : Nat} {cs : Array Value} {elem : TypeId} {fr : Nat × Nat} (h : w.heap[b]? = some (.cells cs elem fr)) {n : Nat} (hn : n <= cs.size) : (loadCells ⟨b, 0, none⟩ n).run P w = .ok (cs.toList.take n).toArray w := by
 have := run_loadCells_list (P := P) w ⟨b, 0, none⟩ (cs.toList.take n) fun j v hv => by
  rw [zll]; rw [ycg] at hv; split at hv
  ·simp only [World.cell?, h]; simpa using hv
  ·cases hv
 rwa [ycb, yca, Nat.min_eq_left hn] at this
theorem zrk {μ' : Mu} {i j : BI} {c : Tr zab} {m L : Nat} {es : Lo} {cs cs2 : Array Value} {elem el : TypeId} {fr fr2 : Nat × Nat} (hle : μ.lw μ') (h : znt μ i (.cells c m (some es)) (.cells cs elem fr)) {new : List zab} {vn : List Value} (hn : zbk μ new vn)
  {tot : Nat} (hm : m <= tot) (htot : L + new.length = tot) (hsz : tot <= cs2.size) (hfr : fr2.2 <= fr2.1 \/ cs2.size <= fr2.1) (hold : ∀ k, k < L -> cs2[k]? = cs[k]?) (hnew : ∀ k, k < new.length -> cs2[L + k]? = vn[k]?)
  (hj : j.tight = false /\ j.es = es.es /\ j.room = cs2.size) (hmod : ∀ t, es = .ty t -> el = t) : znt μ' j (.cells (c.setMany new L) tot (some es)) (.cells cs2 el fr2) := by
 obtain ⟨cs0, elem0, fr0, e, h2, h3, h4, h5⟩ := h
 cases e
 refine ⟨cs2, el, fr2, rfl, hsz, .inr hfr, fun k v hv => ?_, hj.1, hj.2.1, hj.2.2, hmod⟩
 rw [Tr.get_setMany] at hv; split at hv
 ·rename_i hk
  obtain ⟨u, hu, hr⟩ := hn.get hv
  refine ⟨by omega, u, ?_, hr.mono hle _ _⟩
  have := hnew (k - L) (by omega)
  rw [show L + (k - L) = k by omega] at this
  rw [this]; exact hu
 ·rename_i hk
  obtain ⟨a, u, hu, hr⟩ := h4 k v hv
  refine ⟨by omega, u, ?_, hr.mono hle _ _⟩
  rw [hold k (by omega)]; exact hu
theorem z6e (hT : zc6 P C) (hbase : B <= C.base) (hH : zbf B N μ H w) (hE : zhp μ e ρ) {c : Call} (hc : c.callee = .builtin .append) (h : zoh c C e H = .val v H') : z2o P B N μ w ρ ⟨dst, .call c, type, pos, after, guard⟩ v H' := by
 have h := zd3 h
 simp only [zad, zae, zbn, ybq, beqf] at h; obtain ⟨st, hst, ty, hty, ut, hut, uty, huty, htag, p, hp, h⟩ := h
 obtain ⟨X, Y, hXY, hX, hY⟩ := zvc hE hp
 unfold zjl at h; simp only [zad] at h; obtain ⟨el, hel, et, het, n, hn, new, hnew, h⟩ := h
 have hF := hT.facts het
 obtain ⟨z, hz, _, hzl⟩ := hF.zero (μ := μ)
 have hU := hT.facts huty
 obtain ⟨U, hUu⟩ := hU.und
 have hU2 : ∀ k, U ≠ .int k := by
  intro k e; subst e; have h0 := hU.desc
  unfold zgl at h0; rw [hUu] at h0; rw [<- h0] at htag; exact htag rfl
 have ht0 : c.argTypes[0]? = some st := by simpa using hst
 have ht1 : c.argTypes[1]? = some ut := by simpa using hut
 have ha0 : (c.args.map ρ)[0]? = some (ρ X) := by rw [hXY]; simp
 have ha1 : (c.args.map ρ)[1]? = some (ρ Y) := by rw [hXY]; simp
 have hln := zzan (P := P) (w := w) hY hn
 obtain ⟨vn, hvn, hvl⟩ := zy3 (P := P) hH hY hn hnew
 obtain ⟨vn2, hvn2, hvl2⟩ := zy3 (P := P) hH.drew hY hn hnew
 have run : ∀ {v' w'}, (Builtin.append_ c.argTypes type (c.args.map ρ)).run P w = .ok v' w' -> (execOp ρ ⟨dst, .call c, type, pos, after, guard⟩).run P w = .ok (.value v') w' := by
  intro v' w' hr; rw [zg6 hc]; simp only [builtin, Sem.run_bind, hr, Result.andThen_ok, Sem.run_pure]
 have hsl := zc1 (hT.facts hty) hel
 split at h
 ·rename_i s hs
  rw [zdq] at hs; rw [hs, zan] at hX; rcases hX with ⟨i, cap', hi, hxv, hcap, htt, hrm⟩ | ⟨k1, k3, k4, A, rc, hxv, k2⟩
  rotate_left
  ·rw [hxv] at ha0
   rw [zal] at h; simp only [zh2] at h; obtain ⟨sb, so, sl, sc⟩ := s
   simp only at k1 k2 k3 k4
   subst k1 k3 k4
   simp only at h
   split at h
   ·rename_i hle
    have hn0 : n = 0 := by omega
    subst hn0; unfold zhz at h; split at h
    ·cases h
     rw [zbk] at hvl; subst hvl; refine ⟨.slice (some A) 0 rc, w, μ, .inl (run ?_), μ.le_refl, hH, Below.refl _ _, by rw [zan]; exact .inr ⟨rfl, rfl, rfl, A, rc, rfl, k2⟩⟩
     have := zfa (type := type) (w' := w) hsl hUu hU2 hF ht0 ht1 ha0 ha1 hln (by omega) hvn rfl
     simpa using this
    ·rw [zad] at h
     obtain ⟨H1, h1, _⟩ := h
     unfold zem at h1; rw [zae, ybq] at h1; have h2 := h1.1
     have := hH.base
     rw [zc8.2 (show 0 < C.base by omega)] at h2
     cases h2
   ·rename_i hgt
    unfold zja at h; simp only [zae, zad] at h; obtain ⟨hmark, hg, cc, hcc, h⟩ := h
    obtain ⟨rfl, rfl⟩ : so = 0 /\ rc = 0 := by
     rcases k2 with k2 | rfl
     ·exact k2
     ·cases hmark
    have hG := zl3 hg
    have hb1 : (0 + n) * et.bytes < 1000000000 := Nat.lt_of_le_of_lt (yaj _ (by omega)) hG.bytes
    split at h
    ·rename_i hnone
     unfold ziv at h; rw [zad] at h; obtain ⟨old, hold, h⟩ := h
     cases h; simp only [Nat.zero_mul] at hold
     cases hold; obtain ⟨nc, hnc, hr⟩ := zf3 (w := w) hsl hUu hU2 hF ht0 ht1 ha0 ha1 hln (by omega) (by have := hG.small; omega) hb1 hG.b (old := #[]) (new := vn2.toArray) (z := z) (by show (loadCells A (0 * et.size)).run P w.drew = _; rw [Nat.zero_mul]; rfl) hvn2 hz
     rw [zb7]; have hgr := hH.drew.newGrown hG hzl hnc (zbk.nil (μ := μ)) (by simp) hvl2 el
     refine ⟨_, _, _, .inl (run hr), hH.ext_le, hgr, zgy.trans (zcd hH.drew.size _), ?_⟩
     rw [zan]; exact .inl ⟨_, nc, Mu.ext_same, rfl, hnc, (fun h => by cases h), (fun _ => by simp)⟩
    ·rename_i es hsome
     unfold ziw at h; simp only [zae, yac, zcy, zh2, zc3, ybq] at h; obtain ⟨⟨⟨⟨⟨⟨h1, h2⟩, h3⟩, h4⟩, h5⟩, h6⟩, h⟩ := h
     have := hH.base
     rw [zc8.2 (show 0 < C.base by omega)] at h6
     cases h6
  rw [hxv] at ha0; rw [zal] at h; simp only [zh2] at h; split at h
  ·rename_i hle
   obtain ⟨rfl, w', h1, h2, h3⟩ := zzi5 (P := P) hbase hH h hi hvl
   refine ⟨.slice (some ⟨i.b, s.2.1, none⟩) (s.2.2.1 + n) cap', w', μ, .inl (run ?_), μ.le_refl, h2, h3, ?_⟩
   ·exact zfa hsl hUu hU2 hF ht0 ht1 ha0 ha1 hln (by omega) hvn h1
   ·rw [zan]; exact .inl ⟨i, cap', hi, rfl, hcap, htt, hrm⟩
  ·rename_i hgt
   unfold zja at h; simp only [zae, zad] at h; obtain ⟨_, hg, cc, hcc, h⟩ := h
   have hG := zl3 hg
   have hb1 : (s.2.2.1 + n) * et.bytes < 1000000000 := Nat.lt_of_le_of_lt (yaj _ (by omega)) hG.bytes
   split at h
   ·rename_i hnone
    unfold ziv at h; rw [zad] at h; obtain ⟨old, hold, h⟩ := h
    cases h; have hti := zzdq hH hcc hi hnone
    obtain ⟨vo, _, hvo, hlo, _⟩ := hH.drew.manyAt (P := P) hcc hi hold
    have hcc' := htt hti
    obtain ⟨nc, hnc, hr⟩ := zf3 (w := w) hsl hUu hU2 hF ht0 ht1 ha0 ha1 hln (by omega) (by have := hG.small; omega) hb1 hG.b (old := vo.toArray) (new := vn2.toArray) (z := z) hlo hvn2 hz
    rw [zb7]; refine ⟨_, _, _, .inl (run hr), hH.ext_le, hH.drew.newGrown hG hzl hnc hvo (Tr.many_some _ _ _ _ hold).1 hvl2 el, zgy.trans (zcd hH.drew.size _), ?_⟩
    rw [zan]; exact .inl ⟨_, nc, Mu.ext_same, rfl, hnc, (fun h => by cases h), (fun _ => by simp)⟩
   ·rename_i es hsome
    unfold ziw at h; simp only [zae, yac, zcy, zh2, zc3, ybq] at h; obtain ⟨⟨⟨⟨⟨⟨h1, h2⟩, h3⟩, h4⟩, h5⟩, h6⟩, h⟩ := h
    have h2 := zzak.1 h2
    subst h2; have hown : B <= s.1 := by
     have : ¬ s.1 < C.base := fun k => by rw [zc8.2 k] at h6; cases h6
     omega
    have hNb := hH.own s.1 i hown hi
    have hxs := zdd hcc
    obtain ⟨o, g2, g3⟩ := hH.blk _ _ _ hxs hi
    have g3' := g3
    obtain ⟨cs, elem, fr, rfl, g4, g5, g6, g7⟩ := g3
    have g5 := g5.resolve_left (by rw [hNb.2.2]; simp)
    rw [hsome] at g7; obtain ⟨g8, g9, g10, g11⟩ := g7
    rw [zon] at g9; have hone : ∀ a ∈ new, a.one = true := fun a ha => ybc.1 h5 a ha
    have hrm' := hrm g8
    rw [h1, g9, g10] at hrm'
    rw [hsome] at g3'
    have hlen1 := hvl.length
    have hlen2 := hvl2.length
    have htotal : s.2.2.1 * et.size + new.length = (s.2.2.1 + n) * et.size := by rw [hG.new, <- yap]
    have hH2 := hH.drop s.1 (fun x t e => by have := (hH.pnd _ _ _ e).1; rw [hi] at this; cases this)
    by_cases hroom : s.2.2.1 + n <= cap'
    ·have hfit : (s.2.2.1 + n) * et.size <= cs.size := by
      have : (s.2.2.1 + n) * et.size <= cap' * et.size := yaj _ hroom
      omega
     obtain ⟨cs', hs', hj', hr'⟩ := zhr (P := P) (o := s.2.2.1 * et.size) vn 0 cs w g2 g5 (by omega) (hvl.one hone)
     have hst' : (storeCells (Addr.add ⟨i.b, s.2.1, none⟩ (s.2.2.1 * et.size)) vn.toArray.toList).run P w = .ok () (World.setBlk w i.b (.cells cs' elem fr)) := by
      rw [zll, h1, yax]; exact hr'
     have hr := zfa (type := type) hsl hUu hU2 hF ht0 ht1 ha0 ha1 hln hroom hvn (w' := World.setBlk w i.b (.cells cs' elem fr)) hst'
     simp only [Option.some.injEq, Prod.mk.injEq] at h; obtain ⟨rfl, rfl⟩ := h
     refine ⟨_, _, μ.ext H.next i, .inl (run hr), hH.ext_le, ?_, zc0 hNb.1, ?_⟩
     ·refine hH2.adopt hNb ?_ (zrk hH.ext_le.f g3' hvl h4 htotal (by omega) (by rw [hs']; exact g5) ?_ ?_ ⟨g8, by rw [zon]; exact g9, by rw [hs']; exact g10⟩ g11)
      ·intro a x j ha hx hj hb
       have hx' : (if a = s.1 then none else H.t.get a) = some x := by rw [<- Tr.get_del]; exact hx
       split at hx'
       ·cases hx'
       ·rename_i hne
        exact hne (hH.inj a s.1 x _ j i hx' hxs hj hi ha hown hb)
      ·intro k hk
       rw [hj', if_neg (by omega)]
      ·intro k hk
       rw [hj', if_pos (by omega)]
       congr 1; omega
     ·rw [zan]
      refine .inl ⟨i, cap', Mu.ext_same, by rw [h1], hroom, (fun h => by rw [g8] at h; cases h), (fun _ => ?_)⟩
      rw [g9, g10]; omega
    ·have hlo : (Builtin.firstCells et.size s.2.2.1 (.slice (some ⟨i.b, s.2.1, none⟩) s.2.2.1 cap')).run P w.drew = .ok (cs.toList.take (s.2.2.1 * et.size)).toArray w.drew := by
      rw [h1]; exact zyk (w := w.drew) g2 (by omega)
     obtain ⟨nc, hnc, hr⟩ := zf3 (w := w) (type := type) hsl hUu hU2 hF ht0 ht1 ha0 ha1 hln hroom (by have := hG.small; omega) hb1 hG.b (new := vn2.toArray) (z := z) hlo hvn2 hz
     have hzs := hzl.length
     simp only [yca] at hzs; have hol : (cs.toList.take (s.2.2.1 * et.size)).length = s.2.2.1 * et.size := by rw [ycb, yca]; omega
     have hsz2 : ((cs.toList.take (s.2.2.1 * et.size)).toArray ++ vn2.toArray ++ Builtin.zeroCells z.cells (nc - (s.2.2.1 + n))).size = nc * et.size := by
      simp only [Array.size_append, List.size_toArray, zk6, hol, hlen2, hG.new, hzs, hG.zero]; rw [<- yap, <- yap]; congr 1; omega
     simp only [Option.some.injEq, Prod.mk.injEq] at h; obtain ⟨rfl, rfl⟩ := h
     refine ⟨_, _, μ.ext H.next ⟨w.heap.size, false, et.size, nc * et.size, false⟩, .inl (run hr), hH.ext_le, ?_, zgy.trans (zcd hH.drew.size _), ?_⟩
     ·refine hH2.drew.newBlk (H := ⟨H.next, H.t.del s.1⟩) rfl rfl (zrk hH.ext_le.f g3' hvl2 h4 htotal ?_ (.inl (yal _)) ?_ ?_ ⟨rfl, (zon _ _).symm, hsz2.symm⟩ fun t => zzcl)
      ·rw [hsz2]; exact yaj _ hnc
      ·intro k hk
       rw [Array.getElem?_append_left (by simp [hol]; omega), Array.getElem?_append_left (by simp [hol]; omega)]
       simp [hk]
      ·intro k hk
       rw [Array.getElem?_append_left (by simp only [Array.size_append, List.size_toArray, hol, hlen2]; omega), Array.getElem?_append_right (by simp only [List.size_toArray, hol]; omega)]
       simp only [List.size_toArray, hol, Nat.add_sub_cancel_left]; simp
     ·rw [zan]
      exact .inl ⟨_, nc, Mu.ext_same, rfl, hnc, (fun h => by cases h), (fun _ => by simp)⟩
 ·simp only [zae, zcy, zk9.2.1] at h
  obtain ⟨hs, h⟩ := h
  rw [hs, zan] at hX; rw [hX] at ha0; unfold zgh at h; rw [zal] at h; simp only [zcy] at h; split at h
  ·rename_i hn0
   subst hn0
   cases h; refine ⟨.slice none 0 0, w, μ, .inl (run ?_), μ.le_refl, hH, Below.refl _ _, by rw [zan]⟩
   have := zfa (type := type) (w' := w) hsl hUu hU2 hF ht0 ht1 ha0 ha1 hln (by omega) hvn rfl
   simpa using this
  ·rename_i hn0
   simp only [zae] at h; obtain ⟨hg, h⟩ := h
   cases h; have hG := zl3 hg
   have hb1 : (0 + n) * et.bytes < 1000000000 := Nat.lt_of_le_of_lt (yaj _ (by omega)) hG.bytes
   obtain ⟨nc, hnc, hr⟩ := zf3 (w := w) hsl hUu hU2 hF ht0 ht1 ha0 ha1 hln (by omega) (by have := hG.small; omega) hb1 hG.b (old := #[]) (new := vn2.toArray) (z := z) rfl hvn2 hz
   rw [yax] at hr hnc; have hgr := hH.drew.newGrown hG hzl (by omega) (zbk.nil (μ := μ)) (by simp) hvl2 el (newCap := nc)
   simp only [yax] at hgr; refine ⟨_, _, _, .inl (run hr), hH.ext_le, hgr, zgy.trans (zcd hH.drew.size _), ?_⟩
   rw [zan]; exact .inl ⟨_, nc, Mu.ext_same, rfl, hnc, (fun h => by cases h), (fun _ => by simp)⟩
end
end Go.Am
namespace Go.Am
open Go Go.RowKit
section
variable {P : Program} {C : Ctx} {B N : Nat} {μ : Mu} {H H' : zaf} {w : World} {I : World -> Prop}
variable {e : Env} {ρ : Operand -> Value} {dst : Option Tmp} {type : TypeId} {pos : String} {after : Array Edge} {guard : Option (Nat × Bool)} {v : zab}
def zzv (P : Program) (C : Ctx) : Prop := ∀ f fn, C.fns.get f = some fn -> P.funcs[f]? = some fn /\ (fn.name == "runtime.NumGoroutine") = false
def zoq (P : Program) (C : Ctx) (B N : Nat) (I : World -> Prop) : Prop := ∀ f g, C.prims.get f = some g -> ∀ args H v H', g args H = some (v, H') -> ∀ μ w args', zbf B N μ H w -> I w -> zbk μ args args'.toList →
 (H' = H /\ ∃ v', (callFunc f args').run P w = .ok (.value v') w /\ zan μ v v') ∨
 ((callFunc f args').run P w = .ok (.enter f args') w /\ Calls P f args' w fun e w' => ∃ v' μ', e = .returned v' /\ μ.le μ' /\ zbf B N μ' H' w' /\ Below N w w' /\ zan μ' v v')
theorem zt8 (hE : zhp μ e ρ) {c : Call} {f : Operand} (hc : c.callee = .value f) {p : AFn × List zab × List zab} (h : zfb f c.args e = some p) :
  ∃ fn cap as, (resolve ρ c type).run P w = .ok { target := .fn fn cap, args := as } w /\ z7f μ p.1 fn /\ zbk μ p.2.1 as.toList /\ zbk μ p.2.2 cap.toList := by
 unfold zfb at h; simp only [zad, zsp, zb7] at h; obtain ⟨a, ha, q, rfl, as, has, h⟩ := h
 cases h; have hv := hE _ _ ha
 rw [zan] at hv; obtain ⟨fn, first, cap, hfv, hfn, h1, h2⟩ := hv
 refine ⟨fn, cap, first ++ c.args.map ρ, ?_, hfn, ?_, h2⟩
 ·simp only [resolve, hc, hfv, Deferred.ofValue, Sem.run_pure]
 ·have h3 := hE.many has
  have := h1.append h3
  simpa using this
theorem zhs (hF : zzv P C) {f : Nat} {fn : Func} (hf : C.fns.get f = some fn) (hb : fn.body.isSome = true) {args : Array Value} : (callFunc f args).run P w = .ok (.enter f args) w := by
 obtain ⟨h1, h2⟩ := hF f fn hf
 unfold callFunc; simp only [Sem.run_bind, run_program, Result.andThen_ok, h1, h2]; have : fn.body.isNone = false := by cases h : fn.body <;> simp [h] at hb ⊢
 simp [this]
def zw6 (P : Program) (C : Ctx) (B N : Nat) (μ : Mu) (H : zaf) (w : World) (ρ : Operand -> Value) (o : Oper) : zs4 -> Prop
 | .val v H' => z2o P B N μ w ρ o v H' \/ (∃ f args', (execOp ρ o).run P w = .ok (.enter f args') w /\ Calls P f args' w fun e w' => ∃ v' μ', e = .returned v' /\ μ.le μ' /\ zbf B N μ' H' w' /\ Below N w w' /\ zan μ' v v')
 | .enter f args => ∀ fn, C.fns.get f = some fn -> fn.body.isSome = true -> ∃ args', (execOp ρ o).run P w = .ok (.enter f args') w /\ zbk μ args args'.toList
 | .round l args => ∃ i args', μ l = some i /\ zbk μ args args'.toList /\ (execOp ρ o).run P w = (Instr.yield i.b args').run P w
 | .defer d => (∃ c, o.op = .defer c) /\ ∃ d', (execOp ρ o).run P w = .ok (.defer d') w /\ zjo μ d d'
 | .panic v => ∃ v', (execOp ρ o).run P w = .halt (.panic v') w /\ zan μ v v'
 | .recover => (execOp ρ o).run P w = .ok .recover w
 | .fail => True
theorem zzbo (hF : zzv P C) (hP : zoq P C B N I) (hH : zbf B N μ H w) (hI : I w) (hE : zhp μ e ρ) {c : Call} {f : Operand} (hc : c.callee = .value f) :
  zw6 P C B N μ H w ρ ⟨dst, .call c, type, pos, after, guard⟩ (zr7 f c.args C e H) := by
 unfold zr7
 cases hr : zfb f c.args e with
 | none => exact trivial
 | some p =>
  obtain ⟨fn, cap, as, h1, h2, h3, h3'⟩ := zt8 (P := P) (w := w) (type := type) hE hc hr
  have run : (execOp ρ ⟨dst, .call c, type, pos, after, guard⟩).run P w = (invoke (.fn fn cap) as).run P w := by
   simp only [execOp, Sem.run_bind, h1, Result.andThen_ok]
  show zw6 P C B N μ H w ρ _ (zzkq C H p.2.1 p.2.2 p.1)
  obtain ⟨fa, args, caps⟩ := p
  cases fa with
  | func g =>
   cases h2; have run2 : (execOp ρ ⟨dst, .call c, type, pos, after, guard⟩).run P w = (callFunc g (as ++ cap)).run P w := by rw [run]; rfl
   have hl : zbk μ (ze3 args caps) (as ++ cap).toList := by rw [zb7]; simpa using h3.append h3'
   show zw6 P C B N μ H w ρ _ (zu0 C H (ze3 args caps) g (C.prims.get g))
   cases hp : C.prims.get g with
   | none =>
    show ∀ fn, C.fns.get g = some fn -> _
    intro fn hfn hb; exact ⟨as ++ cap, by rw [run2]; exact zhs hF hfn hb, hl⟩
   | some pr =>
    cases hv : pr (ze3 args caps) H with
    | none => simp only [zu0, hv]; exact trivial
    | some x =>
     obtain ⟨v, H'⟩ := x
     simp only [zu0, hv]; rcases hP g pr hp _ H v H' hv μ w (as ++ cap) hH hI hl with ⟨rfl, v', h4, h5⟩ | ⟨h4, h5⟩
     ·exact Or.inl ⟨v', w, μ, .inl (by rw [run2]; exact h4), μ.le_refl, hH, Below.refl _ _, h5⟩
     ·exact Or.inr ⟨g, as ++ cap, by rw [run2]; exact h4, h5⟩
  | yld l =>
   obtain ⟨i, hi, rfl⟩ := h2
   show zw6 P C B N μ H w ρ _ (zzf l args caps)
   cases caps with
   | cons a b => exact trivial
   | nil => exact ⟨i, as, hi, h3, by rw [run]; rfl⟩
theorem zzh9 (hT : zc6 P C) (hbase : B <= C.base) (hF : zzv P C) (hP : zoq P C B N I) (hH : zbf B N μ H w) (hI : I w) (hE : zhp μ e ρ) (o : Oper) : zw6 P C B N μ H w ρ o ((aop o.op).f C e H) := by
 have light : (∃ l : LOp, (aop o.op).f = lv l /\ ∀ v, l C e H = some v -> LOk P μ w ρ o v) -> zw6 P C B N μ H w ρ o ((aop o.op).f C e H) := by
  rintro ⟨l, h1, h2⟩
  rw [h1]; unfold lv
  cases h : l C e H with
  | none => exact trivial
  | some v => exact Or.inl ((h2 v h).hv hH)
 have val : ∀ x : Option (zab × zaf), (aop o.op).f C e H = zvw x -> (∀ v H', zvw x = .val v H' -> z2o P B N μ w ρ o v H') -> zw6 P C B N μ H w ρ o ((aop o.op).f C e H) := by
  intro x h1 h2; rw [h1]
  cases x with
  | none => exact trivial
  | some p => exact Or.inl (h2 p.1 p.2 rfl)
 obtain ⟨dst, op, type, pos, after, guard⟩ := o
 cases op
 case move => exact light ⟨_, rfl, fun v h => z3x (C := C) (H := H) hE h⟩
 case assign => exact light ⟨_, rfl, fun v h => zum (C := C) (H := H) hE h⟩
 case pick => exact light ⟨_, rfl, fun v h => z3w (C := C) (H := H) hE h⟩
 case load => exact light ⟨_, rfl, fun v h => z3y hT hH hE h⟩
 case nilCheck => exact light ⟨_, rfl, fun v h => zzat (C := C) (H := H) hE h⟩
 case binOp => exact light ⟨_, rfl, fun v h => zza3 (H := H) hT hE h⟩
 case unOp => exact light ⟨_, rfl, fun v h => zzhi (C := C) (H := H) hE h⟩
 case makeInterface => exact light ⟨_, rfl, fun v h => zys (H := H) hT hE h⟩
 case makeFunc => exact light ⟨_, rfl, fun v h => z3z (C := C) (H := H) hE h⟩
 case slice => exact light ⟨_, rfl, fun v h => zyq hT hH hE h⟩
 case fieldAddr => exact light ⟨_, rfl, fun v h => zmy (H := H) hT hE h⟩
 case field => exact light ⟨_, rfl, fun v h => zyt (H := H) hT hE h⟩
 case indexAddr => exact light ⟨_, rfl, fun v h => zmx (H := H) hT hE h⟩
 case index => exact light ⟨_, rfl, fun v h => zyr (H := H) hT hE h⟩
 case extract => exact light ⟨_, rfl, fun v h => zrs (C := C) (H := H) hE h⟩
 case build => exact light ⟨_, rfl, fun v h => zyu (H := H) hT hE h⟩
 case typeAssert => exact light ⟨_, rfl, fun v h => zun (H := H) hT hE h⟩
 case lookup => exact light ⟨_, rfl, fun v h => zul hT hH hE h⟩
 case convert s d x =>
  show zw6 P C B N μ H w ρ _ (zf5 s d x C e H)
  cases h : zf5 s d x C e H with
  | val v H' => exact Or.inl (z1p hT hH hE h)
  | fail => exact trivial
  | _ =>
   exfalso
   unfold zf5 at h; split at h
   ·cases h
   ·revert h; unfold zvw; split <;> intro h <;> cases h
 case alloc => exact val _ rfl fun v H' h => zzbq (e := e) hT hH h
 case box => exact val _ rfl fun v H' h => zzj5 (C := C) hH hE h
 case buildSlice => exact val _ rfl fun v H' h => ztj hT hH hE h
 case store => exact val _ rfl fun v H' h => zyy hT hbase hH hE h
 case makeMap t r =>
  show zw6 P C B N μ H w ρ _ (zm1 r C e H)
  cases r with
  | none => exact Or.inl (z1o (C := C) (e := e) hH rfl)
  | some x => exact trivial
 case insert => exact val _ rfl fun v H' h => (zks hT hbase hH hE h).2
 case mapUpdate => exact val _ rfl fun v H' h => (zks hT hbase hH hE h).1
 case makeSlice => exact val _ rfl fun v H' h => zwj hT hH hE h
 case panic x =>
  show zw6 P C B N μ H w ρ _ (zzbp x C e H)
  unfold zzbp
  cases hx : ev x e with
  | none => exact trivial
  | some a =>
   cases hf : a.asIface with
   | none => simp only [zac, hf, zzjd, zzhb]; exact trivial
   | some p =>
    simp only [zac, hf, zzhb]; have h1 := hE _ _ hx
    rw [zpg.1 hf, zan] at h1; obtain ⟨x', h2, h3⟩ := h1
    refine ⟨.iface p.1 x', ?_, by rw [zan]; exact ⟨_, rfl, h3⟩⟩
    simp [execOp, h2, Instr.panic]
 case defer c =>
  show zw6 P C B N μ H w ρ _ ((zp6 c c.callee).f C e H)
  cases hc : c.callee with
  | value f =>
   show zw6 P C B N μ H w ρ _ (zzhb (ob (zfb f c.args e) fun p => some (.defer ⟨some p.1, 0, ze3 p.2.1 p.2.2⟩)))
   cases hr : zfb f c.args e with
   | none => exact trivial
   | some p =>
    obtain ⟨fn, cap, as, h1, h2, h3, h3'⟩ := zt8 (P := P) (w := w) (type := type) hE hc hr
    refine ⟨⟨c, rfl⟩, { target := .fn fn cap, args := as }, by simp only [execOp, Sem.run_bind, h1, Result.andThen_ok, Sem.run_pure], ⟨?_⟩⟩
    refine ⟨fn, cap, as, rfl, h2, ?_⟩
    show zbk μ (ze3 p.2.1 p.2.2) _
    rw [zb7]; simpa using h3.append h3'
  | _ => exact trivial
 case call c =>
  show zw6 P C B N μ H w ρ _ ((zog c c.callee).f C e H)
  cases hc : c.callee with
  | value f => exact zzbo hF hP hH hI hE hc
  | builtin b =>
   cases b
   case append =>
    show zw6 P C B N μ H w ρ _ (zoh c C e H)
    cases h : zoh c C e H with
    | val v H' => exact Or.inl (z6e hT hbase hH hE hc h)
    | fail => exact trivial
    | _ => exfalso; revert h; unfold zoh zvw; split <;> intro h <;> cases h
   case len =>
    show zw6 P C B N μ H w ρ _ (lv (z1j c) C e H)
    unfold lv
    cases h : z1j c C e H with
    | none => exact trivial
    | some v => exact Or.inl ((zza0 hT hH hE hc h).hv hH)
   case max =>
    show zw6 P C B N μ H w ρ _ (lv (zzax c) C e H)
    unfold lv
    cases h : zzax c C e H with
    | none => exact trivial
    | some v => exact Or.inl ((zzaw (C := C) (H := H) hE hc h).hv hH)
   case min =>
    show zw6 P C B N μ H w ρ _ (lv (zzav c) C e H)
    unfold lv
    cases h : zzav c C e H with
    | none => exact trivial
    | some v => exact Or.inl ((zzau (C := C) (H := H) hE hc h).hv hH)
   case recover =>
    show (execOp ρ ⟨dst, .call c, type, pos, after, guard⟩).run P w = _
    rw [zg6 hc]; rfl
   all_goals exact trivial
  | invoke r m => exact trivial
 all_goals exact trivial
end
end Go.Am
namespace Go.Am
open Go Go.RowKit
inductive zbj (μ : Mu) : zcj -> Item -> Prop
 | code (c : Code) : zbj μ (.code c) (.code c)
 | inBlock (id : Nat) : zbj μ (.inBlock id) (.inBlock id)
 | inLoop (c : Code) : zbj μ (.inLoop c) (.inLoop c)
 | inScope (c : Code) : zbj μ (.inScope c) (.inScope c)
 | ops (all : Array Oper) (i : Nat) (h : i <= all.size) : zbj μ (.ops all (all.toList.drop i)) (.inRegion all ((List.range all.size).drop i))
 | inRange (l : Nat) (i : BI) (h : μ l = some i) : zbj μ (.inRange l) (.inRangeFunc i.b)
 | endRange (l : Nat) (i : BI) (h : μ l = some i) : zbj μ (.endRange l) (.endRangeFunc i.b)
 | beginRound : zbj μ .beginRound .beginRound
theorem zbj.mono {μ ν : Mu} (h : μ.lw ν) {a : zcj} {b : Item} (k : zbj μ a b) : zbj ν a b := by
 cases k with
 | code c => exact .code c
 | inBlock id => exact .inBlock id
 | inLoop c => exact .inLoop c
 | inScope c => exact .inScope c
 | ops all i hi => exact .ops all i hi
 | inRange l i hl => exact .inRange l i (h _ _ hl)
 | endRange l i hl => exact .endRange l i (h _ _ hl)
 | beginRound => exact .beginRound
structure zh4 (μ : Mu) (p : zpk) (e : PanicEntry) : Prop where
 v : zan μ p.v e.v
 recovered : e.recovered = p.recovered
 goexit : e.goexit = false
theorem zh4.mono {μ ν : Mu} (h : μ.lw ν) {p : zpk} {e : PanicEntry} (k : zh4 μ p e) : zh4 ν p e := ⟨k.v.mono h _ _, k.recovered, k.goexit⟩
def zs0 (μ : Mu) : zto -> FrameMode -> Prop
 | .run, .run => True
 | .returning, .returning => True
 | .panicking c, .panicking d => zex (zh4 μ) c d
 | _, _ => False
theorem zs0.mono {μ ν : Mu} (h : μ.lw ν) {a : zto} {b : FrameMode} (k : zs0 μ a b) : zs0 ν a b := by
 cases a <;> cases b <;> first | exact zex.mono (fun _ _ r => zh4.mono h r) k | exact k
def zh3 (μ : Mu) : Option Nat -> Option Nat -> Prop
 | none, none => True
 | some l, some m => ∃ i, μ l = some i /\ m = i.b
 | _, _ => False
theorem zh3.mono {μ ν : Mu} (h : μ.lw ν) {a b : Option Nat} (k : zh3 μ a b) : zh3 ν a b := by
 cases a <;> cases b <;> first | (obtain ⟨i, h1, h2⟩ := k; exact ⟨i, h _ _ h1, h2⟩) | exact k
structure zbq (μ : Mu) (R : zgv) (fr : Frame) : Prop where
 fn : fr.fn = R.fn
 size : fr.tmps.size = R.n
 defers : zex (zjo μ) R.defers fr.defers
 mode : zs0 μ R.mode fr.mode
 kind : fr.kind = if R.deferred then .deferred else .normal
 round : zh3 μ R.roundOf fr.roundOf
theorem zbq.mono {μ ν : Mu} (h : μ.lw ν) {R : zgv} {fr : Frame} (k : zbq μ R fr) : zbq ν R fr :=
 ⟨k.fn, k.size, k.defers.mono fun _ _ r => r.mono h, k.mode.mono h, k.kind, k.round.mono h⟩
def zhq (o : Oper) (j : Nat) : Prop := ∃ e ∈ o.after.toList, Region.binds .any e = true /\ e.on = j
def zzgo (ops : Array Oper) : (Nat -> Bool) -> List Nat -> Prop
 | S, [] => ∀ i, i < ops.size -> S i = true
 | S, i :: rest => ∃ o, ops[i]? = some o /\ S i = false /\ (∀ j, zhq o j -> S j = true) /\ zzgo ops (fun k => S k || k == i) rest
theorem z9f {ops : Array Oper} {listed : Array Bool} {i : Nat} (h : i ∈ Region.ready .any ops listed) : ∃ o, ops[i]? = some o /\ listed.getD i true = false /\ ∀ j, zhq o j -> listed.getD j false = true := by
 unfold Region.ready at h; rw [List.mem_filter] at h; obtain ⟨h1, h2⟩ := h
 simp only [yac, ybq] at h2; obtain ⟨h2, h3⟩ := h2
 cases ho : ops[i]? with
 | none => rw [ho] at h3; simp at h3
 | some o =>
  rw [ho] at h3; refine ⟨o, rfl, h2, ?_⟩
  rintro j ⟨e, he, hb, rfl⟩
  simp only [Option.map_some, Option.getD_some, Array.all_eq_true'] at h3; have := h3 e (by simpa using he)
  rw [hb] at this; simpa using this
theorem zzee {ops : Array Oper} {listed : Array Bool} {i : Nat} {o : Oper} (ho : ops[i]? = some o) (h1 : listed.getD i true = false) (h2 : ∀ j, zhq o j -> listed.getD j false = true) : i ∈ Region.ready .any ops listed := by
 unfold Region.ready; rw [List.mem_filter]; refine ⟨by rw [List.mem_range]; exact (yaf.1 ho).1, ?_⟩
 rw [h1, ho]; simp only [ybm, ybo, Option.map_some, Option.getD_some, Array.all_eq_true']; intro e he
 cases hb : Region.binds .any e with
 | false => rfl
 | true => simpa using h2 e.on ⟨e, by simpa using he, hb, rfl⟩
def Back (ops : Array Oper) : Prop := ∀ i o, ops[i]? = some o -> ∀ j, zhq o j -> j < i
theorem zzcj {p q : Nat -> Bool} (hqp : ∀ k, q k = true -> p k = true) {i : Nat} (hp : p i = true) (hq : q i = false) : ∀ l : List Nat, i ∈ l -> l.countP q + 1 <= l.countP p := by
 have le : ∀ l : List Nat, l.countP q <= l.countP p := fun l => List.countP_mono_left fun k _ h => hqp k h
 intro l; induction l with
 | nil => intro h; cases h
 | cons k l ih =>
  intro h; rw [List.countP_cons, List.countP_cons]; rcases yat.1 h with rfl | h
  ·rw [hp, hq]; have := le l; simp; omega
  ·have := ih h
   cases hk : q k with
   | true => rw [hqp k hk]; simp; omega
   | false => simp; omega
theorem zzd6 {ops : Array Oper} (hb : Back ops) : ∀ (fuel t : Nat) (listed : Array Bool), listed.size = ops.size →
  (List.range ops.size).countP (fun i => !listed.getD i true) <= fuel →
  zzgo ops (fun i => listed.getD i false) (Region.linearise.go .any ops fuel t listed []) := by
 intro fuel; induction fuel with
 | zero =>
  intro t listed hs hc; simp only [Region.linearise.go, List.reverse_nil]; intro i hi; have h0 := Nat.le_zero.1 hc
  rw [List.countP_eq_zero] at h0; have := h0 i (List.mem_range.2 hi)
  simp only [Bool.not_eq_true, Bool.not_eq_false'] at this; have hi' : i < listed.size := by omega
  simpa [Array.getD, hi'] using this
 | succ fuel ih =>
  intro t listed hs hc; simp only [Region.linearise.go]; change zzgo ops _ (match (Region.ready .any ops listed)[t % (Region.ready .any ops listed).length]? with
   | some i => Region.linearise.go .any ops fuel (t / (Region.ready .any ops listed).length) (listed.setIfInBounds i true) [i]
   | none => [].reverse)
  cases hi : (Region.ready .any ops listed)[t % (Region.ready .any ops listed).length]? with
  | none =>
   have hnil : Region.ready .any ops listed = [] := by
    cases hr : Region.ready .any ops listed with
    | nil => rfl
    | cons x xs =>
     rw [hr] at hi; have hlt : t % (x :: xs).length < (x :: xs).length := ybz _ (by simp)
     rw [List.getElem?_eq_none_iff] at hi; omega
   show ∀ i, i < ops.size -> listed.getD i false = true
   intro i; induction i using Nat.strongRecOn with
   | _ i ihi =>
    intro hlt; refine Classical.byContradiction fun hne => ?_
    have ho : ops[i]? = some ops[i] := by simp [hlt]
    have hil : i < listed.size := by omega
    have h1 : listed.getD i true = false := by
     have : listed.getD i false = false := by simpa using hne
     simpa [Array.getD, hil] using this
    have := zzee ho h1 fun j hj => ihi j (hb i _ ho j hj) (Nat.lt_trans (hb i _ ho j hj) hlt)
    rw [hnil] at this; cases this
  | some i =>
   simp only []; rw [linearise_go_acc, List.reverse_singleton, List.singleton_append]; obtain ⟨o, ho, h1, h2⟩ := z9f (ybw hi)
   have hlt : i < ops.size := (yaf.1 ho).1
   have hil : i < listed.size := by omega
   refine ⟨o, ho, by simpa [Array.getD, hil] using h1, h2, ?_⟩
   have key : (fun k => listed.getD k false || k == i) = fun k => (listed.setIfInBounds i true).getD k false := by
    funext k
    simp only [yby, ybt]; by_cases e : i = k
    ·subst e; simp [hil]
    ·rw [if_neg e]
     have : (k == i) = false := by simp; exact fun h => e h.symm
     simp [this]
   rw [key]; refine ih _ _ (by simpa using hs) ?_
   have hcnt : (List.range ops.size).countP (fun k => !(listed.setIfInBounds i true).getD k true) + 1 <= (List.range ops.size).countP (fun k => !listed.getD k true) := by
    refine zzcj (fun k hk => ?_) (i := i) ?_ ?_ _ (List.mem_range.2 hlt)
    ·simp only [ybq, yby, ybt] at hk ⊢
     split at hk
     ·rename_i e; subst e; simp at hk
     ·exact hk
    ·simpa using h1
    ·simp [yby, hil]
   omega
end Go.Am
namespace Go.Am
open Go Go.RowKit
theorem z8k (m i : Nat) : tb m i = m.testBit i := by
 have h : Nat.mod (Nat.shiftRight m i) 2 = (m >>> i) % 2 := rfl
 unfold tb; show Nat.beq ((m >>> i) % 2) 1 = _
 rw [Nat.testBit, Nat.and_comm, Nat.and_one_is_mod]; rcases Nat.mod_two_eq_zero_or_one (m >>> i) with h | h <;> rw [h] <;> rfl
theorem zpw (i j : Nat) : tb (zwz i) j = (i == j) := by
 rw [z8k]; show (1 <<< i).testBit j = _
 rw [Nat.one_shiftLeft, Nat.testBit_two_pow]
 cases h : (i == j) <;> simp_all
theorem z2z (a b j : Nat) : tb (Nat.lor a b) j = (tb a j || tb b j) := by
 rw [z8k, z8k, z8k]; exact Nat.testBit_or a b j
theorem zvg (j : Nat) : tb 0 j = false := by rw [z8k]; simp
theorem zhj (e : Edge) : zpf e = Region.binds .any e := by
 unfold zpf Region.binds
 cases e.ground <;> rfl
def zlo (ops : Array Oper) (S : Nat -> Bool) : Prop := ∀ i o, ops[i]? = some o -> S i = true -> ∀ j, zhq o j -> S j = true
def zzk1 (ops : Array Oper) (k m : Nat) : Prop := ∀ S, zlo ops S -> (∀ o, ops[k]? = some o -> ∀ j, zhq o j -> S j = true) -> ∀ j, tb m j = true -> S j = true
theorem zzad {t : Tr Nat} {j : Nat} : ∀ {l : List Edge}, tb (zuj t l) j = true -> ∃ e ∈ l, Region.binds .any e = true /\ (e.on = j \/ tb (zoi t e.on) j = true) := by
 intro l; induction l with
 | nil => intro h; simp [zuj, zvg] at h
 | cons e l ih =>
  intro h; unfold zuj at h
  cases hb : zpf e with
  | false =>
   rw [hb] at h; obtain ⟨e', h1, h2⟩ := ih h
   exact ⟨e', .tail _ h1, h2⟩
  | true =>
   rw [hb] at h; simp only [cond_true, z2z, zpw, ybr, beq_iff_eq] at h; rcases h with (h | h) | h
   ·exact ⟨e, .head _, by rw [<- zhj]; exact hb, .inl h⟩
   ·exact ⟨e, .head _, by rw [<- zhj]; exact hb, .inr h⟩
   ·obtain ⟨e', h1, h2⟩ := ih h
    exact ⟨e', .tail _ h1, h2⟩
theorem zzfp {t : Tr Nat} {i k m : Nat} : zoi (t.set i m) k = if k = i then m else zoi t k := by
 unfold zoi; rw [Tr.get_set]; by_cases h : k = i <;> simp [h]
theorem zzbs {k : Nat} : zoi .leaf k = 0 := rfl
theorem zed {α : Type} {l r : List α} {a : α} {i : Nat} (h : a :: r = l.drop i) : l[i]? = some a /\ r = l.drop (i + 1) := by
 have h1 : (l.drop i)[0]? = some a := by rw [<- h]; rfl
 rw [ycf] at h1; refine ⟨by simpa using h1, ?_⟩
 have : r = (l.drop i).drop 1 := by rw [<- h]; rfl
 rw [this, List.drop_drop]
theorem zzgh {ops : Array Oper} : ∀ (r : List Oper) (i : Nat) (t : Tr Nat), r = ops.toList.drop i -> (∀ k, zzk1 ops k (zoi t k)) -> ∀ k, zzk1 ops k (zoi (zzku r i t) k) := by
 intro r; induction r with
 | nil => intro i t _ h k; exact h k
 | cons o r ih =>
  intro i t hr h; obtain ⟨h1, h2⟩ := zed hr
  refine ih (i + 1) _ h2 fun k => ?_
  rw [zzfp]; split
  ·rename_i e; subst e
   intro S hS hp j hj; obtain ⟨e, he, hb, hj⟩ := zzad hj
   have ho : ops[k]? = some o := by simpa using h1
   have hon := hp o ho e.on ⟨e, he, hb, rfl⟩
   rcases hj with rfl | hj
   ·exact hon
   ·exact h e.on S hS (fun o' ho' => hS _ o' ho' hon) j hj
  ·exact h k
theorem z97 {ops : Array Oper} : ∀ (r : List Oper) (i : Nat), r = ops.toList.drop i -> z3q r i = true -> ∀ k o, i <= k -> ops[k]? = some o -> ∀ j, zhq o j -> j < k := by
 intro r; induction r with
 | nil =>
  intro i hr _ k o hk ho; have : ops.toList.length <= i := by rw [<- List.drop_eq_nil_iff]; exact hr.symm
  have := (yaf.1 ho).1
  simp at *; omega
 | cons o r ih =>
  intro i hr h k o' hk ho; obtain ⟨h1, h2⟩ := zed hr
  unfold z3q at h; rw [zal] at h; split at h
  ·rename_i h3
   rcases Nat.eq_or_lt_of_le hk with rfl | hk
   ·have : o' = o := by
     have : ops[i]? = some o := by simpa using h1
     rw [this] at ho; exact (ybj ho).symm
    subst this; rintro j ⟨e, he, hb, rfl⟩
    rw [zc3, ybc] at h3; have := h3 e he
    rw [zhj, hb] at this; exact zc8.1 this
   ·exact ih (i + 1) h2 h k o' hk ho
  ·cases h
def WrOk (ops : Array Oper) (i : Nat) (wr : Tr Nat) : Prop := ∀ d k, wr.get d = some k ↔ k < i /\ ∃ o, ops[k]? = some o /\ o.dst = some d
theorem zzii {ops : Array Oper} : ∀ (r : List Oper) (i : Nat) (t wr : Tr Nat), r = ops.toList.drop i -> i <= ops.size -> WrOk ops i t -> wrOf r i t = some wr -> WrOk ops ops.size wr := by
 intro r; induction r with
 | nil =>
  intro i t wr hr hi h he
  cases he; have : ops.toList.length <= i := by rw [<- List.drop_eq_nil_iff]; exact hr.symm
  have : i = ops.size := by simp at this; omega
  rw [<- this]; exact h
 | cons o r ih =>
  intro i t wr hr hi h he; obtain ⟨h1, h2⟩ := zed hr
  have ho : ops[i]? = some o := by simpa using h1
  have hi' : i < ops.size := (yaf.1 ho).1
  unfold wrOf at he
  cases hd : o.dst with
  | none =>
   rw [hd] at he; refine ih (i + 1) t wr h2 hi' (fun d k => ?_) he
   rw [h d k]; constructor
   ·rintro ⟨a, b⟩; exact ⟨by omega, b⟩
   ·rintro ⟨a, o', ho', hd'⟩
    refine ⟨?_, o', ho', hd'⟩
    rcases Nat.lt_succ_iff_lt_or_eq.1 a with a | rfl
    ·exact a
    ·rw [ho] at ho'; cases ho'; rw [hd] at hd'; cases hd'
  | some d0 =>
   rw [hd] at he; simp only [] at he
   cases hg : t.get d0 with
   | some x => rw [hg] at he; cases he
   | none =>
    rw [hg] at he; refine ih (i + 1) _ wr h2 hi' (fun d k => ?_) he
    rw [Tr.get_set]; by_cases hdd : d = d0
    ·subst hdd
     rw [if_pos rfl]; constructor
     ·intro e; cases e; exact ⟨Nat.lt_succ_self _, o, ho, hd⟩
     ·rintro ⟨a, o', ho', hd'⟩
      rcases Nat.lt_succ_iff_lt_or_eq.1 a with a | rfl
      ·have := (h d k).2 ⟨a, o', ho', hd'⟩
       rw [hg] at this; cases this
      ·rfl
    ·rw [if_neg hdd, h d k]
     constructor
     ·rintro ⟨a, b⟩; exact ⟨by omega, b⟩
     ·rintro ⟨a, o', ho', hd'⟩
      refine ⟨?_, o', ho', hd'⟩
      rcases Nat.lt_succ_iff_lt_or_eq.1 a with a | rfl
      ·exact a
      ·rw [ho] at ho'; cases ho'; rw [hd] at hd'; cases hd'; exact absurd rfl hdd
theorem zzel {ops : Array Oper} {wr anc : Tr Nat} {olds : List (Nat × List Nat)} : ∀ (r : List Oper) (i : Nat), r = ops.toList.drop i -> zzem wr anc olds r i = true →
  ∀ k o, i <= k -> ops[k]? = some o -> z06 (zoi anc k) o.guard = true /\ ∀ t ∈ zbt o.op, z95 wr anc k (zcq k olds) t = true := by
 intro r; induction r with
 | nil =>
  intro i hr _ k o hk ho; have : ops.toList.length <= i := by rw [<- List.drop_eq_nil_iff]; exact hr.symm
  have := (yaf.1 ho).1
  simp at *; omega
 | cons o r ih =>
  intro i hr h k o' hk ho; obtain ⟨h1, h2⟩ := zed hr
  unfold zzem at h; rw [zal] at h; split at h
  ·rename_i h3
   rw [zal] at h; split at h
   ·rename_i h4
    rcases Nat.eq_or_lt_of_le hk with rfl | hk
    ·have : o' = o := by
      have : ops[i]? = some o := by simpa using h1
      rw [this] at ho; exact (ybj ho).symm
     subst this; rw [zc3, ybc] at h4; exact ⟨h3, h4⟩
    ·exact ih (i + 1) h2 h k o' hk ho
   ·cases h
  ·cases h
structure zsy (ops : Array Oper) (olds : List (Nat × List Nat)) (anc : Tr Nat) : Prop where
 back : Back ops
 before : ∀ k, zzk1 ops k (zoi anc k)
 one : ∀ (i j : Nat) (o u : Oper) (d : Nat), ops[i]? = some o -> ops[j]? = some u -> o.dst = some d -> u.dst = some d -> i = j
 guard : ∀ (k : Nat) (o : Oper), ops[k]? = some o -> z06 (zoi anc k) o.guard = true
 name : ∀ (k : Nat) (o : Oper) (j : Nat) (u : Oper) (t : Nat), ops[k]? = some o -> ops[j]? = some u -> u.dst = some t -> t ∈ zbt o.op -> if t ∈ zcq k olds then j = k \/ tb (zoi anc j) k = true else tb (zoi anc k) j = true
theorem z93 {ops : Array Oper} {p : Plan} (h : zjt ops p = true) : ∃ anc D, zsy ops p.olds anc /\ zdj ops.toList p.first 0 = some D /\ zb2 ops.toList anc p.stages D = true := by
 change z05 ops.toList p = true at h
 unfold z05 at h; rw [zal] at h; split at h
 case isFalse => cases h
 rename_i hb
 cases hw : wrOf ops.toList 0 .leaf with
 | none => rw [hw] at h; cases h
 | some wr =>
  rw [hw] at h; simp only [] at h; rw [zal] at h; split at h
  case isFalse => cases h
  rename_i ho
  cases hl : zdj ops.toList p.first 0 with
  | none => rw [hl] at h; cases h
  | some D =>
   rw [hl] at h; have wo : WrOk ops ops.size wr := zzii _ 0 _ _ rfl (Nat.zero_le _) (fun d k => by simp [Tr.get_leaf]) hw
   have oo := zzel _ 0 (by rfl) ho
   have wr' : ∀ k o d, ops[k]? = some o -> o.dst = some d -> wr.get d = some k := fun k o d h1 h2 => (wo d k).2 ⟨(yaf.1 h1).1, o, h1, h2⟩
   refine ⟨_, D, ⟨fun i o h1 => z97 _ 0 rfl hb i o (Nat.zero_le _) h1, zzgh _ 0 _ rfl fun k S _ _ j hj => ?_, ?_, fun k o h1 => (oo k o (Nat.zero_le _) h1).1, ?_⟩, rfl, h⟩
   ·rw [zzbs, zvg] at hj; cases hj
   ·intro i j o u d h1 h2 h3 h4
    have a := wr' i o d h1 h3
    rw [wr' j u d h2 h4] at a; exact (ybj a).symm
   ·intro k o j u t h1 h2 h3 h4
    have a := (oo k o (Nat.zero_le _) h1).2 t h4
    unfold z95 at a; rw [wr' j u t h2 h3] at a; simp only [] at a; rw [zal] at a; by_cases hm : zck t (zcq k p.olds) = true
    ·rw [if_pos hm] at a
     rw [if_pos ((zd6 _ _).1 hm)]
     rw [zal] at a; split at a
     ·rename_i e; exact .inl (zcy.1 e)
     ·exact .inr a
    ·rw [if_neg hm] at a
     rw [if_neg fun e => hm ((zd6 _ _).2 e)]
     exact a
theorem zin {ops : Array Oper} {i D D' : Nat} (h : zh8 ops.toList i D = some D') : ∃ o, ops[i]? = some o /\ tb D i = false /\ (∀ j, zhq o j -> tb D j = true) /\ ∀ k, tb D' k = (tb D k || k == i) := by
 unfold zh8 at h; rw [zad] at h; obtain ⟨o, h1, h2⟩ := h
 rw [zbn] at h1; rw [zae] at h2; obtain ⟨h2, h3⟩ := h2
 cases h3; rw [zal] at h2; split at h2
 ·cases h2
 ·rename_i h4
  refine ⟨o, by simpa using h1, by simpa using h4, ?_, fun k => by rw [z2z, zpw]; congr 1; exact Bool.beq_comm⟩
  rintro j ⟨e, he, hb, rfl⟩
  unfold zzdp at h2; rw [zc3, ybc] at h2; have := h2 e he
  rw [zhj, hb] at this; exact this
theorem z94 {ops : Array Oper} {h D : Nat} : ∀ (r : List Oper) (i : Nat), r = ops.toList.drop i -> z3p h D r i = true →
  ∀ k o, i <= k -> ops[k]? = some o -> tb D k = false -> (∀ j, zhq o j -> tb D j = true) -> k = h := by
 intro r; induction r with
 | nil =>
  intro i hr _ k o hk ho; have : ops.toList.length <= i := by rw [<- List.drop_eq_nil_iff]; exact hr.symm
  have := (yaf.1 ho).1
  simp at *; omega
 | cons o r ih =>
  intro i hr h k o' hk ho; obtain ⟨h1, h2⟩ := zed hr
  unfold z3p at h; rw [zal] at h; split at h
  ·rename_i h3
   rcases Nat.eq_or_lt_of_le hk with rfl | hk
   ·have : o' = o := by
     have : ops[i]? = some o := by simpa using h1
     rw [this] at ho; exact (ybj ho).symm
    subst this; intro hD hj; rw [hD] at h3; simp only [cond_false] at h3; rw [zal] at h3; split at h3
    ·rename_i e; exact zcy.1 e
    ·exfalso
     have : zzdp D o' = true := by
      unfold zzdp; rw [zc3, ybc]; intro e he
      cases hb : zpf e with
      | false => rfl
      | true => exact hj e.on ⟨e, he, by rw [<- zhj]; exact hb, rfl⟩
     rw [this] at h3; cases h3
   ·exact ih (i + 1) h2 h k o' hk ho
  ·cases h
theorem z5x {ops : Array Oper} {m D : Nat} {again : List Nat} : ∀ (r : List Oper) (i : Nat), r = ops.toList.drop i -> zv6 m D again r i = true →
  ∀ k o, i <= k -> ops[k]? = some o -> tb D k = true -> tb m k = true \/ zpn o.op = true \/ zeo o.op = true \/ k ∈ again := by
 intro r; induction r with
 | nil =>
  intro i hr _ k o hk ho; have : ops.toList.length <= i := by rw [<- List.drop_eq_nil_iff]; exact hr.symm
  have := (yaf.1 ho).1
  simp at *; omega
 | cons o r ih =>
  intro i hr h k o' hk ho; obtain ⟨h1, h2⟩ := zed hr
  unfold zv6 at h; rw [zal] at h; split at h
  ·rename_i h3
   rcases Nat.eq_or_lt_of_le hk with rfl | hk
   ·have : o' = o := by
     have : ops[i]? = some o := by simpa using h1
     rw [this] at ho; exact (ybj ho).symm
    subst this; intro hD; rw [hD] at h3; simp only [cond_true] at h3; rw [zal] at h3; split at h3
    ·rename_i e; exact .inl e
    ·rw [zal] at h3
     split at h3
     ·rename_i e; exact .inr (.inl e)
     ·rw [zal] at h3
      split at h3
      ·rename_i e; exact .inr (.inr (.inl e))
      ·exact .inr (.inr (.inr ((zd6 _ _).1 h3)))
   ·exact ih (i + 1) h2 h k o' hk ho
  ·cases h
theorem zzen {ops : Array Oper} {D : Nat} : ∀ (r : List Oper) (i : Nat), r = ops.toList.drop i -> zzeo D r i = true -> ∀ k, i <= k -> k < ops.size -> tb D k = true := by
 intro r; induction r with
 | nil =>
  intro i hr _ k hk ho; have : ops.toList.length <= i := by rw [<- List.drop_eq_nil_iff]; exact hr.symm
  simp at *; omega
 | cons o r ih =>
  intro i hr h k hk ho; obtain ⟨h1, h2⟩ := zed hr
  unfold zzeo at h; rw [zal] at h; split at h
  ·rename_i h3
   rcases Nat.eq_or_lt_of_le hk with rfl | hk
   ·exact h3
   ·exact ih (i + 1) h2 h k hk ho
  ·cases h
theorem zyf {ops : Array Oper} {anc : Tr Nat} {D : Nat} (h : zb2 ops.toList anc [] D = true) : ∀ k, k < ops.size -> tb D k = true :=
 fun k hk => zzen _ 0 rfl h k (Nat.zero_le _) hk
theorem zgr {ops : Array Oper} {anc : Tr Nat} {D : Nat} {st : zcz} {r : List zcz} (h : zb2 ops.toList anc (st :: r) D = true) (hlt : st.heavy <= ops.size) :
  (∀ k o, ops[k]? = some o -> tb D k = false -> (∀ j, zhq o j -> tb D j = true) -> k = st.heavy) ∧
  (∀ k o, ops[k]? = some o -> tb D k = true -> tb (zoi anc st.heavy) k = true \/ zpn o.op = true \/ zeo o.op = true \/ k ∈ st.again) ∧
  ∃ D1 D2, zh8 ops.toList st.heavy D = some D1 /\ zdj ops.toList st.lights D1 = some D2 /\ zb2 ops.toList anc r D2 = true := by
 unfold zb2 at h; rw [zal, if_neg fun e => by have := zc8.1 e; rw [za1] at this; simp at this; omega, zal] at h
 split at h
 case isFalse => cases h
 rename_i h1; rw [zal] at h; split at h
 case isFalse => cases h
 rename_i h2; refine ⟨fun k o a b c => z94 _ 0 rfl h1 k o (Nat.zero_le _) a b c, fun k o a b => z5x _ 0 rfl h2 k o (Nat.zero_le _) a b, ?_⟩
 cases h3 : zh8 ops.toList st.heavy D with
 | none => rw [h3] at h; cases h
 | some D1 =>
  rw [h3] at h; simp only [zac] at h
  cases h4 : zdj ops.toList st.lights D1 with
  | none => rw [h4] at h; cases h
  | some D2 => rw [h4] at h; exact ⟨D1, D2, rfl, h4, h⟩
theorem ztf {ops : Array Oper} {anc : Tr Nat} {D : Nat} {st : zcz} {r : List zcz} (h : zb2 ops.toList anc (st :: r) D = true) (hlt : ops.size < st.heavy) (hle : st.heavy <= ops.size + ops.size) :
  ∃ o D1 D2, ops[st.heavy - (ops.size + 1)]? = some o /\ zeo o.op = true /\ zh8 ops.toList (st.heavy - (ops.size + 1)) D = some D1 /\ zdj ops.toList st.lights D1 = some D2 /\ zb2 ops.toList anc r D2 = true := by
 have e0 : Nat.sub st.heavy (Nat.succ (zbw ops.toList)) = st.heavy - (ops.size + 1) := by rw [za1]; simp
 unfold zb2 at h; rw [zal, if_pos (zc8.2 (by rw [za1]; simpa using hlt)), zal, if_neg (fun e => by have := zc8.1 e; rw [za1] at this; simp at this; omega), zal, e0] at h
 split at h
 case isFalse => cases h
 rename_i h1
 cases h3 : zh8 ops.toList (st.heavy - (ops.size + 1)) D with
 | none => rw [h3] at h; cases h
 | some D1 =>
  rw [h3] at h; simp only [zac] at h
  cases h4 : zdj ops.toList st.lights D1 with
  | none => rw [h4] at h; cases h
  | some D2 =>
   rw [h4] at h; rw [zbn] at h1
   cases ho : ops.toList[st.heavy - (ops.size + 1)]? with
   | none => rw [ho] at h1; cases h1
   | some o => rw [ho] at h1; exact ⟨o, D1, D2, by simpa using ho, h1, rfl, h4, h⟩
structure z2p (ops : Array Oper) (anc : Tr Nat) (D : Nat) (G : List Nat) (D1 : Nat) : Prop where
 op : ∀ i ∈ G, ∃ o, ops[i]? = some o /\ tb D i = false /\ (∀ j, zhq o j -> tb D j = true) /\ o.dst = none
 nodup : G.Nodup
 done : ∀ k, tb D1 k = (tb D k || decide (k ∈ G))
 rest : ∀ k o, ops[k]? = some o -> tb D1 k = false -> (∀ g ∈ G, tb (zoi anc k) g = true) \/ ¬ ∀ j, zhq o j -> tb D1 j = true
 again : ∀ k o, ops[k]? = some o -> tb D k = true -> zpn o.op = true \/ zeo o.op = true \/ zyw o.op = true \/ ∀ g ∈ G, tb (zoi anc g) k = true
theorem z2x {D : Nat} {o : Oper} : zzdp D o = true ↔ ∀ j, zhq o j -> tb D j = true := by
 unfold zzdp; rw [zc3, ybc]; constructor
 ·rintro h j ⟨e, he, hb, rfl⟩
  have := h e he
  rw [zhj, hb] at this; exact this
 ·intro h e he
  cases hb : zpf e with
  | false => rfl
  | true => exact h e.on ⟨e, he, by rw [<- zhj]; exact hb, rfl⟩
theorem okG_ok {ops : Array Oper} {D : Nat} : ∀ {G : List Nat} {E D1 : Nat}, okG ops.toList D G E = some D1 -> (∀ k, tb D k = true -> tb E k = true) →
  (∀ i ∈ G, ∃ o, ops[i]? = some o /\ tb E i = false /\ (∀ j, zhq o j -> tb D j = true) /\ o.dst = none) /\ G.Nodup /\ ∀ k, tb D1 k = (tb E k || decide (k ∈ G)) := by
 intro G; induction G with
 | nil => intro E D1 h _; cases h; exact ⟨fun i hi => (by cases hi), List.nodup_nil, fun k => by simp⟩
 | cons i G ih =>
  intro E D1 h hDE; unfold okG at h; simp only [zad, zae, yac, ybq, zbn] at h; obtain ⟨o, ho, ⟨⟨h1, h2⟩, h3⟩, h⟩ := h
  have hE : ∀ k, tb (Nat.lor E (zwz i)) k = (tb E k || i == k) := fun k => by rw [z2z, zpw]
  obtain ⟨g1, g2, g3⟩ := ih h (fun k hk => by rw [hE, hDE k hk]; rfl)
  have hni : i ∉ G := fun hi => by
   obtain ⟨_, _, h4, _⟩ := g1 i hi
   rw [hE] at h4; simp at h4
  refine ⟨fun j hj => ?_, List.nodup_cons.2 ⟨hni, g2⟩, fun k => ?_⟩
  ·rcases yat.1 hj with rfl | hj
   ·refine ⟨o, by simpa using ho, h1, z2x.1 h2, ?_⟩
    cases hd : o.dst with
    | none => rfl
    | some d => rw [hd] at h3; cases h3
   ·obtain ⟨u, a, b, c, d⟩ := g1 j hj
    rw [hE] at b; simp only [Bool.or_eq_false_iff] at b; exact ⟨u, a, b.1, c, d⟩
  ·rw [g3, hE, Bool.or_assoc]
   congr 1
   by_cases e : k = i
   ·subst e; simp
   ·have : (i == k) = false := by simpa using fun h => e h.symm
    simp [this, e]
theorem z92 {ops : Array Oper} {anc : Tr Nat} {D1 : Nat} {G : List Nat} : ∀ (r : List Oper) (i : Nat), r = ops.toList.drop i -> z3o anc D1 G r i = true →
  ∀ k o, i <= k -> ops[k]? = some o -> tb D1 k = false -> (∀ g ∈ G, tb (zoi anc k) g = true) \/ ¬ ∀ j, zhq o j -> tb D1 j = true := by
 intro r; induction r with
 | nil =>
  intro i hr _ k o hk ho; have : ops.toList.length <= i := by rw [<- List.drop_eq_nil_iff]; exact hr.symm
  have := (yaf.1 ho).1
  simp at *; omega
 | cons o r ih =>
  intro i hr h k o' hk ho; obtain ⟨h1, h2⟩ := zed hr
  unfold z3o at h; rw [zal] at h; split at h
  case isFalse => cases h
  rename_i h3; rcases Nat.eq_or_lt_of_le hk with rfl | hk
  ·have : o' = o := by
    have : ops[i]? = some o := by simpa using h1
    rw [this] at ho; exact (ybj ho).symm
   subst this; intro hD; rw [hD] at h3; simp only [cond_false] at h3; rw [zal] at h3; split at h3
   ·rename_i e
    rw [zc3, ybc] at e; exact .inl e
   ·refine .inr fun hj => ?_
    rw [z2x.2 hj] at h3; cases h3
  ·exact ih (i + 1) h2 h k o' hk ho
theorem z07 {ops : Array Oper} {anc : Tr Nat} {D : Nat} {G : List Nat} : ∀ (r : List Oper) (i : Nat), r = ops.toList.drop i -> zp1 anc D G r i = true →
  ∀ k o, i <= k -> ops[k]? = some o -> tb D k = true -> zpn o.op = true \/ zeo o.op = true \/ zyw o.op = true \/ ∀ g ∈ G, tb (zoi anc g) k = true := by
 intro r; induction r with
 | nil =>
  intro i hr _ k o hk ho; have : ops.toList.length <= i := by rw [<- List.drop_eq_nil_iff]; exact hr.symm
  have := (yaf.1 ho).1
  simp at *; omega
 | cons o r ih =>
  intro i hr h k o' hk ho; obtain ⟨h1, h2⟩ := zed hr
  unfold zp1 at h; rw [zal] at h; split at h
  case isFalse => cases h
  rename_i h3; rcases Nat.eq_or_lt_of_le hk with rfl | hk
  ·have : o' = o := by
    have : ops[i]? = some o := by simpa using h1
    rw [this] at ho; exact (ybj ho).symm
   subst this; intro hD; rw [hD] at h3; simp only [cond_true] at h3; rw [zal] at h3; split at h3
   ·rename_i e; exact .inl e
   ·rw [zal] at h3
    split at h3
    ·rename_i e; exact .inr (.inl e)
    ·rw [zal] at h3
     split at h3
     ·rename_i e; exact .inr (.inr (.inl e))
     ·rw [zc3, ybc] at h3
      exact .inr (.inr (.inr h3))
  ·exact ih (i + 1) h2 h k o' hk ho
theorem zte {ops : Array Oper} {anc : Tr Nat} {D : Nat} {st : zcz} {r : List zcz} (h : zb2 ops.toList anc (st :: r) D = true) (hlt : ops.size + ops.size < st.heavy) :
  ∃ D1 D2, z2p ops anc D st.again D1 /\ zdj ops.toList st.lights D1 = some D2 /\ zb2 ops.toList anc r D2 = true := by
 unfold zb2 at h; rw [zal, if_pos (zc8.2 (by rw [za1]; simp; omega)), zal, if_pos (zc8.2 (by rw [za1]; simpa using hlt))] at h
 split at h
 case h_2 => cases h
 rename_i D2 hg; unfold z96 at hg; simp only [zad, zae, yac] at hg; obtain ⟨D1, h1, ⟨h2, h3⟩, h4⟩ := hg
 obtain ⟨g1, g2, g3⟩ := okG_ok h1 fun _ h => h
 exact ⟨D1, D2, ⟨g1, g2, g3, fun k o a b => z92 _ 0 rfl h2 k o (Nat.zero_le _) a b, fun k o a b => z07 _ 0 rfl h3 k o (Nat.zero_le _) a b⟩, h4, h⟩
end Go.Am
namespace Go.Am
open Go Go.RowKit
section
variable {P : Program} {C : Ctx} {μ : Mu} {all : Array Oper} {olds : List (Nat × List Nat)} {anc : Tr Nat} {n : Nat} {old tm : Tm} {D : Nat} {S : Nat -> Bool} {order : List Nat} {tmps : Array Value} {ds : List Deferred}
theorem zkj : zan μ zbh undef := by rw [zbh, zan]; exact ⟨#[], rfl, rfl⟩
theorem zzb2 {e : Env} (hg : ∀ g, g < 256 -> μ g = some ⟨g, true, 0, 0, true⟩) (ht : ∀ t v, zzdf t e = some v -> zan μ v (tmps.getD t undef)) : zhp μ e (Act.eval ⟨tmps, ds⟩) := by
 intro x v h
 cases x with
 | tmp t => exact ht t v h
 | const c => exact z09 h
 | global g =>
  change zz3 g e = some v at h
  unfold zz3 at h; rw [zal] at h; split at h
  ·rename_i hlt
   cases h; rw [zan]; exact ⟨_, hg g (zc8.1 hlt), rfl⟩
  ·cases h
 | func f =>
  change xFunc f e = some v at h
  cases h; rw [zan]; exact ⟨.func f, #[], #[], rfl, rfl, rfl, rfl⟩
theorem zct.erel (hg : ∀ g, g < 256 -> μ g = some ⟨g, true, 0, 0, true⟩) (h : zct μ n tm tmps) : zhp μ (.now tm) (Act.eval ⟨tmps, ds⟩) :=
 zzb2 hg fun t v hv => h.2 t v hv
theorem Tm.get_set {t : Tm} {i j : Nat} {x : zab} : (t.set i x).get j = if j = i then some x else t.get j := by
 unfold Tm.set Tm.get; simp only [zns]; by_cases h : Nat.blt i t.k = true
 ·rw [if_pos h]
  simp only []; by_cases hj : j = i
  ·subst hj; rw [if_pos h, if_pos rfl, Tr.get_set, if_pos rfl]
  ·rw [if_neg hj, Tr.get_set, if_neg hj]
 ·rw [if_neg h]
  simp only []; have as : zzgg j ((i, x) :: t.t) = if j = i then some x else zzgg j t.t := by
   show (Bool.rec (motive := fun _ => Option zab) (zzgg j t.t) (some x) (Nat.beq j i)) = _
   rw [zns]; by_cases hj : j = i
   ·rw [if_pos (zcy.2 hj), if_pos hj]
   ·rw [if_neg (fun e => hj (zcy.1 e)), if_neg hj]
  by_cases hj : j = i
  ·subst hj; rw [if_neg h, if_pos rfl, as, if_pos rfl]
  ·rw [if_neg hj]
   rw [as, if_neg hj]
theorem zby {dst : Option Nat} {v : zab} {t : Nat} : (putA n tm dst v).get t = if dst = some t /\ t < n then some v else tm.get t := by
 unfold putA putB
 cases dst with
 | none => simp [putNo]
 | some d =>
  simp only [zzeg]; rw [zal]; by_cases h : Nat.blt d n = true
  ·rw [if_pos h, Tm.get_set]
   by_cases e : t = d
   ·subst e; rw [if_pos rfl, if_pos ⟨rfl, zc8.1 h⟩]
   ·rw [if_neg e, if_neg fun k => e (ybj k.1).symm]
  ·rw [if_neg h, if_neg]
   rintro ⟨e, h2⟩
   cases e
   exact h (zc8.2 h2)
def zmo (tm old : Tm) (olds : List (Nat × List Nat)) (i : Nat) (o : Oper) : Env := .mixed tm old (zcq i olds) (zbt o.op)
structure zb3 (μ : Mu) (all : Array Oper) (olds : List (Nat × List Nat)) (anc : Tr Nat) (n : Nat) (old tm : Tm) (D : Nat) (S : Nat -> Bool) (order : List Nat) (tmps : Array Value) : Prop where
 reg : zsy all olds anc
 sched : zzgo all S order
 sub : ∀ i, S i = true -> tb D i = true
 closed : zlo all S
 dclosed : zlo all (tb D)
 size : tmps.size = n
 now : ∀ (i : Nat) (o : Oper) (d : Nat) (v : zab), all[i]? = some o -> o.dst = some d -> S i = true -> d < n -> tm.get d = some v -> zan μ v (tmps.getD d undef)
 past : ∀ (d : Nat) (v : zab), d < n -> (∀ (i : Nat) (o : Oper), all[i]? = some o -> o.dst = some d -> S i = false) -> old.get d = some v -> zan μ v (tmps.getD d undef)
 keep : ∀ d : Nat, d < n -> (∀ (i : Nat) (o : Oper), all[i]? = some o -> o.dst = some d -> tb D i = false) -> tm.get d = old.get d
 big : ∀ (d : Nat) (v : zab), n <= d -> (tm.get d = some v \/ old.get d = some v) -> zan μ v undef
theorem zsy.up (R : zsy all olds anc) (hS : zlo all S) {i j : Nat} {o : Oper} (ho : all[i]? = some o) (hp : ∀ j, zhq o j -> S j = true) (h : tb (zoi anc i) j = true) : S j = true :=
 R.before i S hS (fun o' ho' => by rw [ho] at ho'; cases ho'; exact hp) j h
theorem zkt {d : Nat} (h : tmps.size <= d) : tmps.getD d undef = undef := by
 simp [Array.getD, Nat.not_lt.2 h]
theorem zb3.erel (R : zb3 μ all olds anc n old tm D S order tmps) (hg : ∀ g, g < 256 -> μ g = some ⟨g, true, 0, 0, true⟩) {i : Nat} {o : Oper} (ho : all[i]? = some o) (hi : S i = false) (hp : ∀ j, zhq o j -> S j = true) :
  zhp μ (zmo tm old olds i o) (Act.eval ⟨tmps, ds⟩) := by
 refine zzb2 hg fun t v h => ?_
 unfold zmo at h; simp only [zzdf] at h; rw [zal] at h; split at h
 case isFalse => cases h
 rename_i hn; have hn := (zd6 _ _).1 hn
 by_cases hd : t < n
 ·by_cases hw : ∃ (j : Nat) (u : Oper), all[j]? = some u /\ u.dst = some t
  ·obtain ⟨j, u, hu, hud⟩ := hw
   have nm := R.reg.name i o j u t ho hu hud hn
   by_cases hold : t ∈ zcq i olds
   ·rw [if_pos hold] at nm
    rw [(zd6 _ _).2 hold] at h
    simp only [cond_true] at h; have hj : S j = false := by
     rcases nm with rfl | nm
     ·exact hi
     ·cases hj : S j with
      | false => rfl
      | true =>
       have := R.reg.up R.closed hu (fun k hk => R.closed j u hu hj k hk) nm
       rw [hi] at this; cases this
    refine R.past t v hd (fun i' o' ho' hd' => ?_) h
    have := R.reg.one i' j o' u t ho' hu hd' hud
    rw [this]; exact hj
   ·rw [if_neg hold] at nm
    have : zck t (zcq i olds) = false := by
     cases hm : zck t (zcq i olds) with
     | false => rfl
     | true => exact absurd ((zd6 _ _).1 hm) hold
    rw [this] at h; simp only [cond_false] at h; exact R.now j u t v hu hud (R.reg.up R.closed ho hp nm) hd h
  ·have none1 : ∀ (i : Nat) (o : Oper), all[i]? = some o -> o.dst = some t -> S i = false := fun i o h1 h2 => absurd ⟨i, o, h1, h2⟩ hw
   have k := R.keep t hd fun i o h1 h2 => absurd ⟨i, o, h1, h2⟩ hw
   refine R.past t v hd none1 ?_
   cases hm : zck t (zcq i olds) with
   | false => rw [hm] at h; rw [<- k]; exact h
   | true => rw [hm] at h; exact h
 ·rw [zkt (by rw [R.size]; omega)]
  refine R.big t v (by omega) ?_
  cases hm : zck t (zcq i olds) with
  | false => rw [hm] at h; exact .inl h
  | true => rw [hm] at h; exact .inr h
theorem zxd {v : zab} {b : Bool} (h : zan μ v (.bool b)) : v = .bool b := by
 cases v <;> rw [zan] at h
 case bool => cases h; rfl
 all_goals simp at h
theorem zb3.wanted (R : zb3 μ all olds anc n old tm D S order tmps) {i : Nat} {o : Oper} {w : Bool} (ho : all[i]? = some o) (hp : ∀ j, zhq o j -> S j = true) (h : zbb o.guard all tm = some w) :
  Region.wanted o (yielded all tmps) = w := by
 have hgd := R.reg.guard i o ho
 unfold zbb z7t at h; unfold Region.wanted
 cases hg : o.guard with
 | none => rw [hg] at h; cases h; rfl
 | some jw =>
  obtain ⟨j, want⟩ := jw
  rw [hg] at h hgd; simp only [zxc, zad, zbn] at h; obtain ⟨d, ⟨u, hu, hud⟩, v, hv, h⟩ := h
  have hu' : all[j]? = some u := by simpa using hu
  have hj : S j = true := R.reg.up R.closed ho hp hgd
  have hy : yielded all tmps j = match tmps[d]? with | some (.bool b) => some b | _ => none := by
   unfold yielded; rw [hu']; simp [hud]
   rfl
  simp only []; rw [hy]; by_cases hd : d < n
  ·have hs : d < tmps.size := by rw [R.size]; exact hd
   have rel := R.now j u d v hu' hud hj hd hv
   have e1 : tmps[d]? = some (tmps.getD d undef) := by simp [Array.getD, hs]
   rw [e1]; generalize tmps.getD d undef = x at rel
   cases hb : v.asBool with
   | some b =>
    rw [hb] at h; have : v = .bool b := by cases v <;> simp [zab.asBool] at hb; rw [hb]
    rw [this, zan] at rel; subst rel; simp only [Option.some.injEq] at h; rw [<- h, znh]
    cases b <;> cases want <;> rfl
   | none =>
    rw [hb] at h
    cases h
    cases x with
    | bool b => rw [zxd rel] at hb; cases hb
    | _ => rfl
  ·have e1 : tmps[d]? = none := by simp [R.size]; omega
   rw [e1]; have rel := R.big d v (by omega) (.inl hv)
   cases hb : v.asBool with
   | some b =>
    have : v = .bool b := by cases v <;> simp [zab.asBool] at hb; rw [hb]
    rw [this, zan] at rel
    cases rel
   | none => rw [hb] at h; cases h; rfl
theorem zb3.did {i : Nat} {D' : Nat} {tm' : Tm} {v : zab} {v' : Value} {o : Oper} (R : zb3 μ all olds anc n old tm D S (i :: order) tmps) (ho : all[i]? = some o)
  (hD : ∀ k, tb D' k = (tb D k || k == i)) (hput : ∀ d, o.dst = some d -> d < n -> tm'.get d = some v) (hother : ∀ d, (o.dst = some d -> n <= d) -> tm'.get d = tm.get d) (hv : zan μ v v') :
  zb3 μ all olds anc n old tm' D' (fun k => S k || k == i) order (Act.put ⟨tmps, ds⟩ o.dst v').tmps := by
 obtain ⟨o', ho', hi, hp, hs⟩ := R.sched
 rw [ho] at ho'; cases ho'
 have htm : ∀ d, (Act.put ⟨tmps, ds⟩ o.dst v').tmps.getD d undef = if o.dst = some d /\ d < n then v' else tmps.getD d undef := by
  intro d; unfold Act.put
  cases hd : o.dst with
  | none => simp
  | some d0 =>
   simp only [yby, ybt]; by_cases e : d0 = d
   ·subst e
    by_cases hn : d0 < n
    ·simp [hn, R.size]
    ·simp [hn, R.size]
   ·simp [e]
 have hsz : (Act.put ⟨tmps, ds⟩ o.dst v').tmps.size = n := by
  unfold Act.put
  cases o.dst <;> simp [R.size]
 refine ⟨R.reg, hs, fun k hk => ?_, ?_, ?_, hsz, ?_, ?_, ?_, ?_⟩
 ·rw [hD]
  simp only [ybr] at hk ⊢
  exact hk.imp (R.sub k) id
 ·intro k u hu hk j hj
  simp only [ybr, beq_iff_eq] at hk ⊢
  rcases hk with hk | rfl
  ·exact .inl (R.closed k u hu hk j hj)
  ·rw [ho] at hu; cases hu
   exact .inl (hp j hj)
 ·intro k u hu hk j hj
  rw [hD] at hk ⊢
  simp only [ybr, beq_iff_eq] at hk ⊢
  rcases hk with hk | rfl
  ·exact .inl (R.dclosed k u hu hk j hj)
  ·rw [ho] at hu; cases hu
   exact .inl (R.sub j (hp j hj))
 ·intro k u d x hu hud hk hd hx
  rw [htm]; by_cases e : o.dst = some d
  ·rw [if_pos ⟨e, hd⟩]
   rw [hput d e hd] at hx; cases hx; exact hv
  ·rw [if_neg fun h => e h.1]
   rw [hother d fun h => absurd h e] at hx; refine R.now k u d x hu hud ?_ hd hx
   simp only [ybr, beq_iff_eq] at hk; rcases hk with hk | rfl
   ·exact hk
   ·rw [ho] at hu; cases hu; exact absurd hud e
 ·intro d x hd hw hx
  rw [htm]; have e : o.dst ≠ some d := fun e => by
   have := hw i o ho e
   simp at this
  rw [if_neg fun h => e h.1]; refine R.past d x hd (fun k u hu hud => ?_) hx
  have := hw k u hu hud
  simp only [Bool.or_eq_false_iff] at this; exact this.1
 ·intro d hd hw
  have e : o.dst ≠ some d := fun e => by
   have := hw i o ho e
   rw [hD] at this; simp at this
  rw [hother d fun h => absurd h e]; refine R.keep d hd fun k u hu hud => ?_
  have := hw k u hu hud
  rw [hD] at this; simp only [Bool.or_eq_false_iff] at this; exact this.1
 ·intro d x hd hx
  refine R.big d x hd ?_
  rw [hother d fun _ => hd] at hx; exact hx
end
end Go.Am
namespace Go.Am.HM
open Go Go.Am
def HLe (H H' : zaf) : Prop := ∀ b y, H.t.get b = some y -> H'.t.get b = some y
section
variable {H HA : zaf} {e : Env} {C : Ctx} {v : zab}
theorem zbp (h : HLe H HA) {b : Nat} {p : Tr zab × Nat × Option Lo} (hb : zaq H b = some p) : zaq HA b = some p := by
 unfold zaq at hb ⊢; rw [zad] at hb ⊢; obtain ⟨y, h1, h2⟩ := hb; exact ⟨y, h _ _ h1, h2⟩
theorem ze0 (h : HLe H HA) {b : Nat} {p : List (zab × zab)} (hb : zee H b = some p) : zee HA b = some p := by
 unfold zee at hb ⊢; rw [zad] at hb ⊢; obtain ⟨y, h1, h2⟩ := hb; exact ⟨y, h _ _ h1, h2⟩
theorem zom (h : HLe H HA) {s d : ATy} {a : zab} (hx : zna C s d a H = some v) : zna C s d a HA = some v := by
 unfold zna at hx ⊢
 split at hx
 ·rename_i k hk; exact hx
 ·rename_i hk
  rw [zae] at hx ⊢
  refine ⟨hx.1, ?_⟩
  have hx := hx.2
  rw [zal] at hx ⊢
  split at hx
  ·rename_i e; rw [if_pos e]; exact hx
  ·rename_i e
   rw [if_neg e]; simp only [zad, zae] at hx ⊢
   obtain ⟨a1, h1, b1, h2, k1, h3, h4, h5⟩ := hx
   refine ⟨a1, h1, b1, h2, k1, h3, h4, ?_⟩
   unfold zhh at h5 ⊢
   split at h5
   ·simp only [zad] at h5 ⊢
    obtain ⟨c, g1, g2⟩ := h5
    exact ⟨c, zbp h g1, g2⟩
   ·exact h5
theorem zta (h : HLe H HA) {b size cap l : Nat} {arr : Bool} (hx : zbi H b size cap l arr = true) : zbi HA b size cap l arr = true := by
 unfold zbi at hx ⊢
 cases hc : zaq H b with
 | none => rw [hc] at hx; cases hx
 | some c => rw [hc] at hx; rw [zbp h hc]; exact hx
theorem zlu (h : HLe H HA) {ty : ATy} {a : zab} {l r : Option zab} (hx : zgd C H ty a l r = some v) : zgd C HA ty a l r = some v := by
 have row : ∀ {arr e b off len cap}, zdt C H arr e b off len cap l r = some v -> zdt C HA arr e b off len cap l r = some v := by
  intro arr e b off len cap hx; unfold zdt at hx ⊢
  simp only [zad] at hx ⊢
  obtain ⟨a1, h1, b1, h2, hx⟩ := hx
  refine ⟨a1, h1, b1, h2, ?_⟩
  cases hb : zaq H b with
  | none =>
   have e1 : zcp H b a1.size cap b1.1 arr = false := by unfold zcp; rw [hb]
   have e2 : zbi H b a1.size cap b1.1 arr = false := by unfold zbi; rw [hb]
   rw [e1, e2, Bool.and_false, Bool.and_false] at hx
   cases hx
  | some c =>
   have e1 : zcp HA b a1.size cap b1.1 arr = zcp H b a1.size cap b1.1 arr := by unfold zcp; rw [hb, zbp h hb]
   have e2 : zbi HA b a1.size cap b1.1 arr = zbi H b a1.size cap b1.1 arr := by unfold zbi; rw [hb, zbp h hb]
   rw [e1, e2]; exact hx
 unfold zgd at hx ⊢
 split at hx
 ·exact hx
 ·split at hx
  ·rw [zad] at hx ⊢; obtain ⟨a1, h1, h2⟩ := hx; exact ⟨a1, h1, row h2⟩
  ·split at hx
   ·rw [zad] at hx ⊢; obtain ⟨a1, h1, h2⟩ := hx; exact ⟨a1, h1, row h2⟩
   ·exact hx
theorem zoa (h : HLe H HA) {m : zab} {l : List (zab × zab)} (hx : zrj H m = some l) : zrj HA m = some l := by
 unfold zrj at hx ⊢
 split at hx
 ·exact ze0 h hx
 ·exact hx
theorem zrn (h : HLe H HA) {ty : ATy} {a : zab} {n : Nat} (hx : z7l H ty a = some n) : z7l HA ty a = some n := by
 unfold z7l at hx ⊢
 split at hx
 ·exact hx
 ·split at hx
  ·exact hx
  ·split at hx
   ·exact hx
   ·split at hx
    ·rw [zae, zad] at hx ⊢
     obtain ⟨h1, l, h2, h3⟩ := hx
     exact ⟨h1, l, ze0 h h2, h3⟩
    ·exact hx
theorem alight_mono (h : HLe H HA) {o : Op} (hx : (zbx o).f C e H = some v) : (zbx o).f C e HA = some v := by
 cases o <;> first | exact hx | skip
 case makeFunc fn a b => cases fn <;> exact hx
 case load t a =>
  change zrr t a C e H = some v at hx
  show zrr t a C e HA = some v
  unfold zrr at hx ⊢
  simp only [zad] at hx ⊢
  obtain ⟨a1, h1, p, h2, y, h3, c, h4, h5⟩ := hx
  exact ⟨a1, h1, p, h2, y, h3, c, zbp h h4, h5⟩
 case convert s d x =>
  change zk3 s d x C e H = some v at hx
  show zk3 s d x C e HA = some v
  unfold zk3 at hx ⊢
  simp only [zad] at hx ⊢
  obtain ⟨a1, h1, b1, h2, c1, h3, h4⟩ := hx
  exact ⟨a1, h1, b1, h2, c1, h3, zom h h4⟩
 case slice t x lo hi mx =>
  cases mx with
  | some m => exact hx
  | none =>
   change zmw t x lo hi C e H = some v at hx
   show zmw t x lo hi C e HA = some v
   unfold zmw at hx ⊢
   simp only [zad] at hx ⊢
   obtain ⟨a1, h1, b1, h2, c1, h3, d1, h4, h5⟩ := hx
   exact ⟨a1, h1, b1, h2, c1, h3, d1, h4, zlu h h5⟩
 case lookup t x i ok =>
  change zha t x i ok C e H = some v at hx
  show zha t x i ok C e HA = some v
  unfold zha at hx ⊢
  simp only [zad, zae] at hx ⊢
  obtain ⟨a1, h1, b1, h2, c1, h3, h4, d1, h5, m, h6, es, h7, h8⟩ := hx
  exact ⟨a1, h1, b1, h2, c1, h3, h4, d1, h5, m, h6, es, zoa h h7, h8⟩
 case call c =>
  change (zfx c c.callee).f C e H = some v at hx
  show (zfx c c.callee).f C e HA = some v
  cases hc : c.callee with
  | builtin b =>
   rw [hc] at hx
   cases b <;> first | exact hx | skip
   case len =>
    change z1j c C e H = some v at hx
    show z1j c C e HA = some v
    unfold z1j at hx ⊢
    simp only [zad] at hx ⊢
    obtain ⟨a1, h1, b1, h2, c1, h3, d1, h4, n, h5, h6⟩ := hx
    exact ⟨a1, h1, b1, h2, c1, h3, d1, h4, n, zrn h h5, h6⟩
  | _ => rw [hc] at hx; exact hx
end
end Go.Am.HM
namespace Go.Am
open Go Go.RowKit
theorem z2k {o : Op} (h : zpn o = true) (C : Ctx) (e : Env) (H H' : zaf) : (zbx o).f C e H = (zbx o).f C e H' := by
 cases o <;> first | (simp [zpn] at h; done) | rfl | skip
 case makeFunc fn a b => cases fn <;> rfl
theorem zzr {e e' : Env} (h : ∀ x, ev x e = ev x e') (o : Op) (C : Ctx) (H : zaf) : (zbx o).f C e H = (zbx o).f C e' H := by
 have hs : ∀ l, evs l e = evs l e' := fun l => by unfold evs; rw [funext h]
 have hp : ∀ l, evp l e = evp l e' := fun l => by unfold evp; simp only [h]
 have ho : ∀ x, evo x e = evo x e' := fun x => by cases x <;> simp [evo, h]
 cases o <;> first | rfl | skip
 case move x => exact h x
 case assign x => exact h x
 case pick c a b => simp only [zbx, zzas, h]
 case load t a => simp only [zbx, zrr, h]
 case nilCheck x => simp only [zbx, zze7, h]
 case binOp op t x y z => simp only [zbx, zza4, h]
 case unOp op t x => simp only [zbx, lUn, h]
 case convert s d x => simp only [zbx, zk3, h]
 case makeInterface t x => simp only [zbx, zo4, h]
 case makeFunc fn a b => cases fn <;> simp only [zbx, zj8, zza1, zwc, hs]
 case slice t x lo hi mx => cases mx <;> simp only [zbx, zmv, zmw, zwc, h, ho]
 case fieldAddr s x f => simp only [zbx, zdn, h]
 case field t x f => simp only [zbx, zo6, h]
 case indexAddr t x i => simp only [zbx, zdm, h]
 case index t x i => simp only [zbx, zj7, h]
 case extract t i => simp only [zbx, zfi, h]
 case build t ps => simp only [zbx, zlf, hp]
 case typeAssert x a u ok => simp only [zbx, zhb, h]
 case lookup t x i ok => simp only [zbx, zha, h]
 case call c =>
  have h2 : two c e = two c e' := by unfold two; split <;> simp only [h]
  simp only [zbx, zzjo]
  cases c.callee with
  | builtin b => cases b <;> simp only [zfx, zp4, zwc, z1j, zzax, zzav, h, h2]
  | _ => rfl
theorem z4j {e e' : Env} (h : ∀ t, zzdf t e = zzdf t e') (x : Operand) : ev x e = ev x e' := by
 cases x with
 | tmp t => exact h t
 | _ => rfl
theorem zrg {tm tm' old : Tm} {olds : List (Nat × List Nat)} {i : Nat} {o : Oper} (h : ∀ t ∈ zbt o.op, t ∉ zcq i olds -> tm'.get t = tm.get t) (C : Ctx) (H : zaf) :
  (zbx o.op).f C (zmo tm' old olds i o) H = (zbx o.op).f C (zmo tm old olds i o) H := by
 refine zzr (z4j fun t => ?_) _ _ _
 simp only [zmo, zzdf]
 cases hn : zck t (zbt o.op) with
 | false => rfl
 | true =>
  cases hm : zck t (zcq i olds) with
  | true => rfl
  | false => exact h t ((zd6 _ _).1 hn) fun k => by rw [(zd6 _ _).2 k] at hm; cases hm
section
variable {P : Program} {C : Ctx} {μ : Mu} {H H' : zaf} {all : Array Oper} {olds : List (Nat × List Nat)} {anc : Tr Nat} {n : Nat} {old tm tm' : Tm} {D : Nat} {S : Nat -> Bool} {order : List Nat} {tmps : Array Value} {ds : List Deferred}
structure zw5 (C : Ctx) (H : zaf) (all : Array Oper) (olds : List (Nat × List Nat)) (n : Nat) (old tm : Tm) (i : Nat) (o : Oper) (w : Bool) (v : zab) : Prop where
 op : all[i]? = some o
 want : zbb o.guard all tm = some w
 val : if w = true then (zbx o.op).f C (zmo tm old olds i o) H = some v else v = zbh
 put : ∀ d, o.dst = some d -> d < n -> tm.get d = some v
theorem zw5.pure {i : Nat} {o : Oper} {w : Bool} {v : zab} (h : zw5 C H all olds n old tm i o w v) (hp : zpn o.op = true) (H' : zaf) : zw5 C H' all olds n old tm i o w v :=
 ⟨h.op, h.want, by have := h.val; cases w with | false => exact this | true => rw [if_pos rfl] at this ⊢; rw [<- this]; exact z2k hp _ _ _ _, h.put⟩
theorem zmk (R : zsy all olds anc) (hD : zlo all (tb D)) {i k : Nat} {o u : Oper} (ho : all[i]? = some o) (hi : tb D i = true \/ (i = k /\ ∀ j, zhq o j -> tb D j = true)) (hu : all[k]? = some u) (hk : tb D k = false) :
  (∀ t ∈ zbt o.op, t ∉ zcq i olds -> u.dst ≠ some t) /\ (∀ j w, o.guard = some (j, w) -> ∀ g, all[j]? = some g -> ∀ d, g.dst = some d -> u.dst ≠ some d) := by
 have up : ∀ j, tb (zoi anc i) j = true -> tb D j = true := fun j hj => R.up hD ho (by
  rcases hi with hi | ⟨_, hi⟩
  ·exact fun j hj => hD i o ho hi j hj
  ·exact hi) hj
 constructor
 ·intro t ht hto e
  have := R.name i o k u t ho hu e ht
  rw [if_neg hto] at this; have := up k this
  rw [hk] at this; cases this
 ·intro j w hg g hgj d hd e
  have h1 := R.guard i o ho
  rw [hg] at h1; have h2 := up j h1
  have := R.one j k g u d hgj hu hd e
  rw [this, hk] at h2; cases h2
theorem zf9 {o : Oper} (h : ∀ j w, o.guard = some (j, w) -> ∀ g, all[j]? = some g -> ∀ d, g.dst = some d -> tm'.get d = tm.get d) : zbb o.guard all tm' = zbb o.guard all tm := by
 unfold zbb z7t
 cases hg : o.guard with
 | none => rfl
 | some jw =>
  obtain ⟨j, w⟩ := jw
  simp only [zxc, zbn]
  cases hj : all.toList[j]? with
  | none => rfl
  | some g =>
   simp only [zac]
   cases hd : g.dst with
   | none => rfl
   | some d => simp only [zac]; rw [h j w hg g (by simpa using hj) d hd]
theorem zw5.keep (R : zsy all olds anc) (hD : zlo all (tb D)) {i k : Nat} {o u : Oper} {w : Bool} {v x : zab} (h : zw5 C H all olds n old tm i o w v) (hi : tb D i = true) (hu : all[k]? = some u) (hk : tb D k = false) :
  zw5 C H all olds n old (putA n tm u.dst x) i o w v := by
 obtain ⟨r1, r2⟩ := zmk R hD h.op (.inl hi) hu hk
 refine ⟨h.op, ?_, ?_, ?_⟩
 ·rw [zf9 (tm := tm) fun j w hg g hj d hd => by rw [zby, if_neg fun e => r2 j w hg g hj d hd e.1]]
  exact h.want
 ·have := h.val
  cases w with
  | false => exact this
  | true =>
   rw [if_pos rfl] at this ⊢
   rw [zrg (tm := tm) fun t ht hto => by rw [zby, if_neg fun e => r1 t ht hto e.1]]
   exact this
 ·intro d hd hn
  rw [zby, if_neg]
  ·exact h.put d hd hn
  ·rintro ⟨e, _⟩
   have := R.one i k o u d h.op hu hd e
   rw [this, hk] at hi; cases hi
theorem zw5.grow {i : Nat} {o : Oper} {w : Bool} {v : zab} (h : zw5 C H all olds n old tm i o w v) (hle : HM.HLe H H') : zw5 C H' all olds n old tm i o w v :=
 ⟨h.op, h.want, by have := h.val; cases w with | false => exact this | true => rw [if_pos rfl] at this ⊢; exact HM.alight_mono hle this, h.put⟩
structure zsz (C : Ctx) (μ : Mu) (dp : Nat) (all : Array Oper) (olds : List (Nat × List Nat)) (n : Nat) (old tm : Tm) (i : Nat) (o : Oper) (v : zab) : Prop where
 op : all[i]? = some o
 flo : zeo o.op = true
 want : zbb o.guard all tm = some true
 val : ∃ H0 l, (aop o.op).f C (zmo tm old olds i o) H0 = .val v (za0 H0 l none) /\ μ.pd H0.next = some (.cells (Tr.ofList l) (zbw l) none, dp, i)
 put : ∀ d, o.dst = some d -> d < n -> tm.get d = some v
 lo : zzeu C o.op = none
structure Mu.ln (dp : Nat) (μ ν : Mu) : Prop where
 f : ∀ a i, μ a = some i -> ν a = some i
 pd : ∀ a x j, μ.pd a = some (x, dp, j) -> ν.pd a = some (x, dp, j)
instance {dp : Nat} {μ ν : Mu} : CoeOut (μ.ln dp ν) (μ.lw ν) := ⟨Mu.ln.f⟩
theorem Mu.le.ln {μ ν : Mu} (h : μ.le ν) (dp : Nat) : μ.ln dp ν := ⟨h.f, fun a x j k => by rw [h.pd]; exact k⟩
instance {dp : Nat} {μ ν : Mu} : Coe (μ.le ν) (μ.ln dp ν) := ⟨fun h => h.ln dp⟩
theorem Mu.ln_refl (μ : Mu) (dp : Nat) : μ.ln dp μ := ⟨fun _ _ h => h, fun _ _ _ h => h⟩
theorem Mu.ln_trans {dp : Nat} {a b c : Mu} (h : a.ln dp b) (k : b.ln dp c) : a.ln dp c := ⟨fun x i hx => k.f x i (h.f x i hx), fun x y j hx => k.pd x y j (h.pd x y j hx)⟩
theorem zsz.mono {ν : Mu} {dp : Nat} (h : μ.ln dp ν) {i : Nat} {o : Oper} {v : zab} (p : zsz C μ dp all olds n old tm i o v) : zsz C ν dp all olds n old tm i o v := by
 obtain ⟨H0, l, h1, h2⟩ := p.val
 exact ⟨p.op, p.flo, p.want, ⟨H0, l, h1, h.pd _ _ _ h2⟩, p.put, p.lo⟩
theorem zlh {tm tm' old : Tm} {i : Nat} {o : Oper} (hf : zeo o.op = true) (h : ∀ t ∈ zbt o.op, t ∉ zcq i olds -> tm'.get t = tm.get t) (C : Ctx) (H : zaf) :
  (aop o.op).f C (zmo tm' old olds i o) H = (aop o.op).f C (zmo tm old olds i o) H := by
 refine z1r (z4j fun t => ?_) hf _
 simp only [zmo, zzdf]
 cases hn : zck t (zbt o.op) with
 | false => rfl
 | true =>
  cases hm : zck t (zcq i olds) with
  | true => rfl
  | false => exact h t ((zd6 _ _).1 hn) fun k => by rw [(zd6 _ _).2 k] at hm; cases hm
theorem zsz.keep {dp : Nat} (R : zsy all olds anc) (hD : zlo all (tb D)) {i k : Nat} {o u : Oper} {v x : zab} (h : zsz C μ dp all olds n old tm i o v) (hi : tb D i = true) (hu : all[k]? = some u) (hk : tb D k = false) :
  zsz C μ dp all olds n old (putA n tm u.dst x) i o v := by
 obtain ⟨r1, r2⟩ := zmk R hD h.op (.inl hi) hu hk
 obtain ⟨H0, l, h1, h2⟩ := h.val
 refine ⟨h.op, h.flo, ?_, ⟨H0, l, ?_, h2⟩, ?_, h.lo⟩
 ·rw [zf9 (tm := tm) fun j w hg g hj d hd => by rw [zby, if_neg fun e => r2 j w hg g hj d hd e.1]]
  exact h.want
 ·rw [zlh (tm := tm) h.flo fun t ht hto => by rw [zby, if_neg fun e => r1 t ht hto e.1]]
  exact h1
 ·intro d hd hn
  rw [zby, if_neg]
  ·exact h.put d hd hn
  ·rintro ⟨e, _⟩
   have := R.one i k o u d h.op hu hd e
   rw [this, hk] at hi; cases hi
theorem zsz.fresh {dp : Nat} (R : zsy all olds anc) (hD : zlo all (tb D)) {i : Nat} {o : Oper} {v : zab} (ho : all[i]? = some o) (hp : ∀ j, zhq o j -> tb D j = true) (hi : tb D i = false)
  (hf : zeo o.op = true) (hlo : zzeu C o.op = none) (hw : zbb o.guard all tm = some true) (hv : ∃ H0 l, (aop o.op).f C (zmo tm old olds i o) H0 = .val v (za0 H0 l none) /\ μ.pd H0.next = some (.cells (Tr.ofList l) (zbw l) none, dp, i)) :
  zsz C μ dp all olds n old (putA n tm o.dst v) i o v := by
 obtain ⟨r1, r2⟩ := zmk R hD ho (.inr ⟨rfl, hp⟩) ho hi
 obtain ⟨H0, l, h1, h2⟩ := hv
 refine ⟨ho, hf, ?_, ⟨H0, l, ?_, h2⟩, ?_, hlo⟩
 ·rw [zf9 (tm := tm) fun j w hg g hj d hd => by rw [zby, if_neg fun e => r2 j w hg g hj d hd e.1]]
  exact hw
 ·rw [zlh (tm := tm) hf fun t ht hto => by rw [zby, if_neg fun e => r1 t ht hto e.1]]
  exact h1
 ·intro d hd hn
  rw [zby, if_pos ⟨hd, hn⟩]
theorem zw5.fresh (R : zsy all olds anc) (hD : zlo all (tb D)) {i : Nat} {o : Oper} {w : Bool} {v : zab} (ho : all[i]? = some o) (hp : ∀ j, zhq o j -> tb D j = true) (hi : tb D i = false)
  (hw : zbb o.guard all tm = some w) (hv : if w = true then (zbx o.op).f C (zmo tm old olds i o) H = some v else v = zbh) :
  zw5 C H all olds n old (putA n tm o.dst v) i o w v := by
 obtain ⟨r1, r2⟩ := zmk R hD ho (.inr ⟨rfl, hp⟩) ho hi
 refine ⟨ho, ?_, ?_, ?_⟩
 ·rw [zf9 (tm := tm) fun j w hg g hj d hd => by rw [zby, if_neg fun e => r2 j w hg g hj d hd e.1]]
  exact hw
 ·cases w with
  | false => exact hv
  | true =>
   rw [if_pos rfl] at hv ⊢
   rw [zrg (tm := tm) fun t ht hto => by rw [zby, if_neg fun e => r1 t ht hto e.1]]
   exact hv
 ·intro d hd hn
  rw [zby, if_pos ⟨hd, hn⟩]
theorem zb3.light {i : Nat} {o : Oper} {v : zab} {D' : Nat} (R : zb3 μ all olds anc n old tm D S order tmps) (ho : all[i]? = some o) (hi : tb D i = false) (hp : ∀ j, zhq o j -> tb D j = true) (hD : ∀ k, tb D' k = (tb D k || k == i)) :
  zb3 μ all olds anc n old (putA n tm o.dst v) D' S order tmps := by
 refine ⟨R.reg, R.sched, fun k hk => by rw [hD, R.sub k hk]; rfl, R.closed, ?_, R.size, ?_, R.past, ?_, ?_⟩
 ·intro k u hu hk j hj
  rw [hD] at hk ⊢
  simp only [ybr, beq_iff_eq] at hk ⊢
  rcases hk with hk | rfl
  ·exact .inl (R.dclosed k u hu hk j hj)
  ·rw [ho] at hu; cases hu
   exact .inl (hp j hj)
 ·intro k u d x hu hud hk hd hx
  rw [zby, if_neg] at hx
  ·exact R.now k u d x hu hud hk hd hx
  ·rintro ⟨e, _⟩
   have := R.reg.one k i u o d hu ho hud e
   have hk' := R.sub k hk
   rw [this, hi] at hk'; cases hk'
 ·intro d hd hw
  rw [zby, if_neg]
  ·refine R.keep d hd fun k u hu hud => ?_
   have := hw k u hu hud
   rw [hD] at this; simp only [Bool.or_eq_false_iff] at this; exact this.1
  ·rintro ⟨e, _⟩
   have := hw i o ho e
   rw [hD] at this; simp at this
 ·intro d x hd hx
  refine R.big d x hd ?_
  rw [zby, if_neg fun e => absurd e.2 (by omega)] at hx
  exact hx
theorem zb3.mono {ν : Mu} (hm : μ.lw ν) (R : zb3 μ all olds anc n old tm D S order tmps) : zb3 ν all olds anc n old tm D S order tmps :=
 ⟨R.reg, R.sched, R.sub, R.closed, R.dclosed, R.size, fun i o d v a b c e f => (R.now i o d v a b c e f).mono hm _ _, fun d v a b c => (R.past d v a b c).mono hm _ _, R.keep, fun d v a b => (R.big d v a b).mono hm _ _⟩
end
end Go.Am
