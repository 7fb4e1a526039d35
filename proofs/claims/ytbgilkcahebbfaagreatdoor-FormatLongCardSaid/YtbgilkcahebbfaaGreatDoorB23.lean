/- What is printable as a plan. -/
import Derived.Carry
import Derived.ChangeArms
import Derived.HandedShaped
import Derived.JoinedOf
import Derived.LaidMore
import Derived.OpenShut
import Derived.ProofKit
import Derived.Stop.Joined
import Derived.Test.YtbgilkcahebbfaaGreatDoorRows
import GoSem.ClaimJoined
import Derived.Test.YtbgilkcahebbfaaGreatDoorB22
set_option linter.all false
noncomputable section
set_option maxRecDepth 100000
namespace Go.Proofs
open Go Go.Am
variable [zcb]
variable {t : Tr zak}
def zzkw (S el f : Nat) (zs : List zab) (cond : zpr -> Bool) (v1 v7 : zab) (n i : Int) : T :=
 .ite (iLt i n)
  (.opt (zah C13 S v7 (.int .i64 i)) fun a0 => .light (fun m => zau C13 el ⟨0, m⟩ a0) fun a1 => .asG zs a1 fun X =>
   .ite (cond X) (.callv v1 [.agg (zg8 zs X 0)] fun a3 => .asB a3 fun b4 => .ite (!b4) (.ret (.bool false)) (.jump 2 [v1, v7, .int .i64 n, .int .i64 (zag .i64 (i + 1))])) .fail)
  (.ret (.bool true))
theorem zqe {α : Type} {dd : α -> D} {P : α -> Bool} {S el sz f : Nat} {zs : List zab} {cond : zpr -> Bool} {v1 v7 : zab} (hS : zpi C13 S el sz true) {l : List α} (hz : ∀ x ∈ l, (dd x).zs = zs) (hr : RSl t sz (l.map dd) v7) (hlen : l.length < 1000000000000000000)
  (hj : ∀ i t Q, wp f (zzkw S el f zs cond v1 v7 l.length i) t Q -> jp f 2 [v1, v7, .int .i64 (l.length : Int), .int .i64 i] t Q)
  (hc : ∀ cs, zd9 zab.one cs = true -> zl4 zs cs = true -> cond (cellsOf cs) = true)
  (hcall : ∀ x ∈ l, ∀ cs, RD t (dd x) cs -> ∀ (R : zao), R (.bool (P x)) t -> zcf (zpq v1 [.agg cs]) fun p => Wq C13 F zay p.1 p.2 t R) :
  ∀ (k i : Nat), i + k = l.length -> jp f 2 [v1, v7, .int .i64 (l.length : Int), .int .i64 (i : Int)] t (fun x t' => x = .bool ((l.drop i).all P) /\ t' = t) := by
 intro k; induction k with
 | zero =>
  intro i hi; refine hj _ _ _ (zbv (nLt (by omega)) ?_)
  rw [yau (by omega)]
  exact ⟨rfl, rfl⟩
 | succ k ih =>
  intro i hi; have hlt : i < l.length := by omega
  have hm : l[i] ∈ l := ybk hlt
  obtain ⟨b, off, cs, g1, g2, g3, g4, g5⟩ := zpi.at hS (by simp) hr (i := i) (d := dd l[i]) (by simp [hlt])
  refine hj _ _ _ (zat (yLt (by omega)) (za8 g1 (za9 g2 ?_)))
  rw [zqn]; have hzz := hz _ hm
  refine zlb (zst g5 hzz) (zat (hc cs g5.all (by rw [<- hzz]; exact zwk _ _ g5)) ?_)
  rw [g5.mk hzz]; refine hcall _ hm cs g5 _ ?_
  refine zbe ?_
  have hd : l.drop i = l[i] :: l.drop (i + 1) := yam hlt
  rw [hd, ybh]
  cases hP : P l[i] with
  | false => exact zat rfl ⟨rfl, rfl⟩
  | true =>
   refine zbv (by simp) (zcw ?_)
   rw [wrap_i64 (by omega) (by omega), show (i : Int) + 1 = ((i + 1 : Nat) : Int) by omega, ybo]
   exact ih (i + 1) (by omega)
def zzch (n : Int) : Bool := decide (0 <= n) && decide (n < 65536)
def zzhk (n : Int) : Bool := decide (-2147483648 <= n) && decide (n < 2147483648)
def defP (d : z2l) : Bool := zi8 d.name && (decide (1 <= d.kind) && decide (d.kind <= 6))
def zzha (two : Bool) (r : ztm) : Bool := zzhk r.a && (zzhk r.b && ((two || decide (r.b = 0)) && (zzch r.known && zra r.f)))
def zqs (x : zfo) : Bool := zi8 x.name && x.rows.all (zzha x.two)
def zz1 (x : zcl) : Bool := decide (x.op = 0) && (zes x.name [] && (decide (x.args.length = 0) && zz0 x.v))
def zsk (x : zet) : Bool :=
 zi8 x.name && (zi8 x.label && (zzch x.from_ && (zzch x.known && ((zzch x.to || decide (x.to = 65536)) && (if x.off = true then zz1 x.when_ && zz1 x.then_ else zwp x.when_ 1 && zwp x.then_ 1)))))
def z5s (p : zl7) : Bool := zi8 p.name && (p.defs.all defP && (p.tables.all zqs && p.clauses.all zsk))
theorem z2q {x : zcl} {a b c : zab} (hx : x.fit) (ha : RSl t 1 (zif x.v.f.n.limbs) a) (hb : RSl t 1 (zif x.v.f.d.limbs) b) (hc : RSl t 9 (x.args.map zcl.d) c) : pvC C13 F 90 [.agg (ztl x a b c)] t = some (.bool (zz1 x)) := by
 obtain ⟨op, name, v, args⟩ := x
 simp only [zcl.op, zcl.name, zcl.v, zcl.args, zz1, ztl] at ha hb hc ⊢
 unfold zcl.fit at hx; have hl : zbm c = some (.int .i64 (args.length : Int)) := by rw [hc.len, yag]
 refine zaz.2 (w90 _ _ _ _ _ _ _ _ _ ?_)
 unfold t90; by_cases h1 : op = 0
 case neg => refine zbv (nEq (by omega)) ?_; simp [wpT, h1]
 refine zat (yEq (by omega)) ?_
 cases h2 : zes name [] with
 | false => refine zbv (by simp) ?_; simp [wpT]
 | true =>
  refine zat rfl (za8 hl (zc2 ?_))
  by_cases h3 : args.length = 0
  case neg => refine zbv (nEq (by omega)) ?_; simp [wpT, h3]
  refine zat (yEq (by omega)) (za6 ?_)
  rw [q39, zou ha hb hx.2.2.2.1.2.1.1, zaa]; refine zbe ?_
  simp [wpT, h1, h3]
theorem zzgi {l : List z2l} {v : zab} (hr : RSl t 3 (l.map z2l.d) v) (hlen : l.length < zlk) : pvC C13 F 48 [v, .func (.func 47) [] []] t = some (.bool (l.all defP)) := by
 unfold zlk at hlen; refine zaz.2 (w48 _ _ ?_)
 unfold t48; refine za8 hr.len (zc2 (zcw ?_))
 rw [yag]; refine zqe (dd := z2l.d) (P := defP) (S := 43) (el := 114) (zs := [.str [], .int .u8 0, .bool false]) (cond := fun _ => true) sl43 (fun x _ => x.zs) hr (by omega) (fun i t Q h => j48_2 _ _ _ _ h) (fun _ _ _ => rfl) ?_ l.length 0 (by omega)
 intro x hx cs hcs R hR; have := rd_def hcs
 subst this; show zcf (some (47, [zab.agg [.str x.name, .int .u8 x.kind, .bool x.fact]])) _
 rw [zaa]; have : pvC C13 F 47 [zab.agg [.str x.name, .int .u8 x.kind, .bool x.fact]] t = some (.bool (defP x)) := by
  refine zaz.2 (w47 _ _ _ ?_)
  unfold t47 defP; refine za6 ?_
  rw [q38, zn7, zaa]; refine zbe ?_
  cases h1 : zi8 x.name with
  | false => refine zbv (by simp) ?_; simp [wpT]
  | true =>
   refine zat rfl ?_
   by_cases h2 : 1 <= x.kind
   ·refine zat (yLe (by omega)) ?_
    have : iLe (x.kind : Int) 6 = decide (x.kind <= 6) := by rw [zzj1]; congr 1; exact propext (by omega)
    simp [wpT, h2, this]
   ·refine zbv (nLe (by omega)) ?_
    simp [wpT, h2]
 rw [q47, this, zaa]; exact hR
theorem key_ok {n : Int} : pvC C13 F 87 [.int .i64 n] t = some (.bool (zzhk n)) := by
 refine zaz.2 (w87 _ ?_)
 unfold t87 zzhk; by_cases h : -2147483648 <= n
 ·refine zat (yLe h) ?_
  rw [decide_eq_true h, ybo, <- zzj0]; exact ⟨rfl, rfl⟩
 ·refine zbv (nLe h) ?_
  rw [decide_eq_false h, Bool.false_and]; exact ⟨rfl, rfl⟩
theorem z4q {n : Int} : pvC C13 F 55 [.int .i64 n] t = some (.bool (zzch n)) := z34
theorem row_ok {two : Bool} {r : ztm} {u v : zab} {k b : Nat} {s : zab} {nm : List Nat} (hu : RSl t 1 (zif r.f.n.limbs) u) (hv : RSl t 1 (zif r.f.d.limbs) v) (hf : r.f.fit) (hk : Cel t k none [.func (.func 87) [] []]) (hb : Cel t b none [.str nm, .bool two, s]) :
  pvC C13 F 88 [.agg [.int .i64 r.a, .int .i64 r.b, .int .i64 r.known, .bool r.f.n.neg, u, .bool r.f.d.neg, v], .ptr k 0, .ptr b 0] t = some (.bool (zzha two r)) := by
 refine zaz.2 (w88 _ _ _ _ _ _ _ _ _ ?_)
 have hld : zau C13 59 ⟨0, t⟩ (.ptr k 0) = some (.func (.func 87) [] []) := hk.load1 (j := 0) ty59 rfl rfl
 have hl2 : zau C13 4 ⟨0, t⟩ (.ptr b 1) = some (.bool two) := hb.load1 (j := 1) ty4 rfl rfl
 have hfa : za4 C13 53 1 (.ptr b 0) = some (.ptr b 1) := by kernel_rfl
 have hc : ∀ (n : Int) (K : zab -> T) (Q : zao), wp 88 (K (.bool (zzhk n))) t Q -> wp 88 (.callv (.func (.func 87) [] []) [.int .i64 n] K) t Q := by
  intro n K Q h; show zcf (some (87, [zab.int .i64 n])) _
  rw [zaa]; simp only []; rw [q87, key_ok, zaa]; exact h
 have fin : ∀ (K2 : Bool), (wp 88 (.call 55 [(.int .i64 r.known)] fun a9 =>
 .asB a9 fun b10 => .ite b10
 (.call 53 [(.agg [(.bool r.f.n.neg), u, (.bool r.f.d.neg), v])] fun a11 =>
 .asB a11 fun b12 => .ret (.bool b12))
 (.ret (.bool false))) t (fun x t' => x = .bool (zzch r.known && zra r.f) /\ t' = t)) := by
  intro _; refine za6 ?_
  rw [q55, z4q, zaa]; refine zbe ?_
  cases h : zzch r.known with
  | false => exact zbv (by simp) ⟨rfl, rfl⟩
  | true =>
   refine zat rfl (za6 ?_)
   rw [q53, zjs hu hv hf, zaa]; exact zbe ⟨rfl, rfl⟩
 unfold t88 zzha; refine za9 hld (hc _ _ _ (zbe ?_))
 cases h1 : zzhk r.a with
 | false => exact zbv (by simp) ⟨rfl, rfl⟩
 | true =>
  refine zat rfl (za9 hld (hc _ _ _ (zbe ?_)))
  cases h2 : zzhk r.b with
  | false => exact zbv (by simp) ⟨rfl, rfl⟩
  | true =>
   refine zat rfl (za8 hfa (za9 hl2 (zbe ?_)))
   cases two with
   | true =>
    refine zat rfl ?_
    simp only [Bool.true_or, ybo]; exact fin true
   | false =>
    refine zbv (by simp) ?_
    by_cases h3 : r.b = 0
    ·refine zat (yEq h3) ?_
     simp only [decide_eq_true h3, Bool.or_true, ybo]; exact fin true
    ·refine zbv (nEq h3) ?_
     simp only [decide_eq_false h3, Bool.or_false, Bool.false_and, Bool.and_false]; exact ⟨rfl, rfl⟩
theorem zzdr {x : zfo} {a : zab} (hr : RSl t 7 (x.rows.map ztm.d) a) (hx : x.fit) : pvC C13 F 50 [.agg [.str x.name, .bool x.two, a]] t = some (.bool (zqs x)) := by
 have hlen := hx.2.1
 unfold zlk at hlen; refine ztc (w50 _ _ _ ?_)
 unfold t50; refine zb9 fun b hb hbase => ?_
 obtain ⟨t1, e1, c1, l1, o1⟩ := zly hb [.str x.name, .bool x.two, a] none
 refine ⟨.ptr b 0, ⟨b + 1, t1⟩, by rw [<- e1]; rfl, ?_⟩
 refine zb9 fun k hk kbase => ?_
 obtain ⟨t2, e2, c2, l2, o2⟩ := zi1 (C := C13) ty59 hk
 refine ⟨_, _, e2, ?_⟩
 refine zb9 fun n _ _ => ?_
 obtain ⟨t3, e3, c3, o3⟩ := c2.store1 (v := .func (.func 87) [] []) kbase ty59 rfl rfl rfl (j := 0) (by simp)
 refine ⟨_, _, e3 n, ?_⟩
 have hbk : b ≠ k := by intro e; obtain ⟨c, h, _⟩ := c1; rw [e, hk] at h; cases h
 have cb : Cel t3 b none [.str x.name, .bool x.two, a] := c1.off (by rw [o3 b hbk, o2 b hbk])
 have hle : TLe t t3 := fun c u hc => by
  have h1 := l1 _ _ hc
  have h2 : c ≠ k := fun e => by rw [e, hk] at h1; cases h1
  rw [o3 c h2]; exact l2 _ _ h1
 have hfa0 : za4 C13 53 0 (.ptr b 0) = some (.ptr b 0) := by kernel_rfl
 have hfa2 : za4 C13 53 2 (.ptr b 0) = some (.ptr b 2) := by kernel_rfl
 refine za8 hfa0 (za9 (cb.load1 (j := 0) ty9 rfl rfl) (zgc (za6 ?_)))
 rw [q38, zn7, zaa]; refine zbe ?_
 unfold zqs
 cases h1 : zi8 x.name with
 | false => exact zbv (by simp) ⟨rfl, hle⟩
 | true =>
  refine zat rfl (za8 hfa2 (za9 (cb.load1 (j := 2) ty51 rfl rfl) (za6 ?_)))
  have hall : pvC C13 F 89 [a, .func (.func 88) [] [.ptr k 0, .ptr b 0]] t3 = some (.bool (x.rows.all (zzha x.two))) := by
   refine zaz.2 (w89 _ _ ?_)
   unfold t89; refine za8 (hr.mono hle).len (zc2 (zcw ?_))
   rw [yag]; refine zqe (dd := ztm.d) (P := zzha x.two) (S := 51) (el := 55) (zs := [.int .i64 0, .int .i64 0, .int .i64 0, .bool false, .nilslice, .bool false, .nilslice]) (cond := fun X => zd9 zab.one [(.int .i64 (X.i 0)), (.int .i64 (X.i 1)), (.int .i64 (X.i 2)), (.bool (X.b 3)), (X.v 4), (.bool (X.b 5)), (X.v 6)]) sl51 (fun x _ => x.zs) (hr.mono hle) (by omega) (fun i t Q h => j89_2 _ _ _ _ h) ?_ ?_ x.rows.length 0 (by omega)
   ·intro cs h1 h2
    have h3 : zg8 [.int .i64 0, .int .i64 0, .int .i64 0, .bool false, .nilslice, .bool false, .nilslice] (cellsOf cs) 0 = cs := by simpa using zhe _ cs [] h2
    have e : [zab.int .i64 ((cellsOf cs).i 0), .int .i64 ((cellsOf cs).i 1), .int .i64 ((cellsOf cs).i 2), .bool ((cellsOf cs).b 3), (cellsOf cs).v 4, .bool ((cellsOf cs).b 5), (cellsOf cs).v 6] = cs := h3
    show zd9 zab.one [_, _, _, _, _, _, _] = true
    rw [e]; exact h1
   ·intro r hr' cs hcs R hR
    obtain ⟨u, v, rfl, hu, hv⟩ := zzhc hcs
    show zcf (some (88, [zab.agg [.int .i64 r.a, .int .i64 r.b, .int .i64 r.known, .bool r.f.n.neg, u, .bool r.f.d.neg, v], .ptr k 0, .ptr b 0])) _
    rw [zaa]; simp only []; rw [q88, row_ok hu hv (hx.2.2 r hr').2.2.2 c3 cb, zaa]
    exact hR
  rw [q89, hall, zaa]; exact zbe ⟨rfl, hle⟩
theorem z7a {l : List zfo} {v : zab} (hr : RSl t 3 (l.map zfo.d) v) (hlen : l.length < zlk) (hx : ∀ x ∈ l, x.fit) : pvC C13 F 49 [v, .func (.func 50) [] []] t = some (.bool (l.all zqs)) := by
 unfold zlk at hlen; refine zaz.2 (w49 _ _ ?_)
 unfold t49; refine za8 hr.len (zc2 (zcw ?_))
 rw [yag]; refine zqe (dd := zfo.d) (P := zqs) (S := 44) (el := 53) (zs := [.str [], .bool false, .nilslice]) (cond := fun X => zd9 zab.one [(.str (X.s 0)), (.bool (X.b 1)), (X.v 2)]) sl44 (fun x _ => x.zs) hr (by omega) (fun i t Q h => j49_2 _ _ _ _ h) ?_ ?_ l.length 0 (by omega)
 ·intro cs h1 h2
  have h3 : zg8 [.str [], .bool false, .nilslice] (cellsOf cs) 0 = cs := by simpa using zhe _ cs [] h2
  have e : [zab.str ((cellsOf cs).s 0), .bool ((cellsOf cs).b 1), (cellsOf cs).v 2] = cs := h3
  show zd9 zab.one [_, _, _] = true
  rw [e]; exact h1
 ·intro x hm cs hcs R hR
  obtain ⟨a, rfl, ha⟩ := z3e hcs
  show zcf (some (50, [zab.agg [.str x.name, .bool x.two, a]])) _
  rw [zaa]; simp only []; rw [q50, zzdr ha (hx x hm), zaa]
  exact hR
theorem zzco {bf : Nat} (hF : Cel t bf none zpp) {x : zet} {cs : List zab} (hx : x.fit) (hr : RD t x.d cs) : pvC C13 F 52 [.agg [.ptr bf 0], .agg cs] t = some (.bool (zsk x)) := by
 obtain ⟨a, b, c, a', b', c', rfl, hw, ht⟩ := z9k hr
 have hxw := hx.2.2.2.2.2.1
 have hxt := hx.2.2.2.2.2.2
 obtain ⟨a1, b1, c1, e1, ha, hb, hc⟩ := zq8 hw
 obtain ⟨a2, b2, c2, e2, ha', hb', hc'⟩ := zq8 ht
 simp only [ztl, List.cons.injEq, true_and, and_true] at e1 e2; obtain ⟨rfl, rfl, rfl⟩ := e1
 obtain ⟨rfl, rfl, rfl⟩ := e2
 have fin : ∀ (cw ct : List zab), cw = ztl x.when_ a b c -> ct = ztl x.then_ a' b' c' -> wp 52 (.ite x.off
 (.call 90 [(.agg cw)] fun a10 =>
 .asB a10 fun b11 => .ite b11
 (.call 90 [(.agg ct)] fun a12 =>
 .asB a12 fun b13 => .ret (.bool b13))
 (.ret (.bool false)))
 (.call 18 [(.agg [.ptr bf 0]), (.agg cw), (.int .i64 1)] fun a14 =>
 .asB a14 fun b15 => .ite b15
 (.call 18 [(.agg [.ptr bf 0]), (.agg ct), (.int .i64 1)] fun a16 =>
 .asB a16 fun b17 => .ret (.bool b17))
 (.ret (.bool false)))) t (fun v t' => v = .bool (if x.off = true then zz1 x.when_ && zz1 x.then_ else zwp x.when_ 1 && zwp x.then_ 1) /\ t' = t) := by
  intro cw ct ew et; subst ew; subst et
  cases hoff : x.off with
  | true =>
   refine zat rfl (za6 ?_)
   rw [q90, z2q hxw ha hb hc, zaa]; refine zbe ?_
   rw [if_pos rfl]
   cases h : zz1 x.when_ with
   | false => exact zbv (by simp) ⟨rfl, rfl⟩
   | true =>
    refine zat rfl (za6 ?_)
    rw [q90, z2q hxt ha' hb' hc', zaa]; exact zbe ⟨rfl, rfl⟩
  | false =>
   refine zbv (by simp) (za6 ?_)
   have e1 := z1t hF x.when_ 1 _ hxw (by omega) hw
   have e2 := z1t hF x.then_ 1 _ hxt (by omega) ht
   rw [show ((1 : Nat) : Int) = 1 from rfl] at e1 e2
   rw [q18, e1, zaa]; refine zbe ?_
   rw [if_neg (by simp)]
   cases h : zwp x.when_ 1 with
   | false => exact zbv (by simp) ⟨rfl, rfl⟩
   | true =>
    refine zat rfl (za6 ?_)
    rw [q18, e2, zaa]; exact zbe ⟨rfl, rfl⟩
 refine zaz.2 ?_
 unfold ztl; refine w52 _ _ _ _ _ _ _ _ _ _ _ _ _ _ _ _ _ _ _ _ _ _ _ _ _ ?_
 unfold t52 zsk; refine za6 ?_
 rw [q38, zn7, zaa]; refine zbe ?_
 cases h1 : zi8 x.name with
 | false => exact zat rfl ⟨rfl, rfl⟩
 | true =>
  refine zbv (by simp) (za6 ?_)
  rw [q38, zn7, zaa]; refine zbe ?_
  cases h2 : zi8 x.label with
  | false => exact zat rfl ⟨rfl, rfl⟩
  | true =>
   refine zbv (by simp) (za6 ?_)
   rw [q55, z4q, zaa]; refine zbe ?_
   cases h3 : zzch x.from_ with
   | false => exact zat rfl ⟨rfl, rfl⟩
   | true =>
    refine zbv (by simp) (za6 ?_)
    rw [q55, z4q, zaa]; refine zbe ?_
    cases h4 : zzch x.known with
    | false => exact zat rfl ⟨rfl, rfl⟩
    | true =>
     refine zbv (by simp) (za6 ?_)
     rw [q55, z4q, zaa]; refine zbe ?_
     simp only [ybo]
     cases h5 : zzch x.to with
     | false =>
      refine zat rfl ?_
      by_cases h6 : x.to = 65536
      ·refine zbv (by rw [yEq h6]; simp) ?_
       simp only [decide_eq_true h6, Bool.or_true, ybo]; exact fin _ _ rfl rfl
      ·have : iEq x.to 65536 = false := by
        cases hq : iEq x.to 65536 with
        | true => exact absurd hq (nEq h6)
        | false => rfl
       refine zat (by rw [this]; rfl) ?_
       simp only [decide_eq_false h6, Bool.or_false, Bool.false_and]; exact ⟨rfl, rfl⟩
     | true =>
      refine zbv (by simp) ?_
      simp only [Bool.true_or, ybo]; exact fin _ _ rfl rfl
theorem z2i {bf : Nat} (hF : Cel t bf none zpp) {l : List zet} {v : zab} (hr : RSl t 24 (l.map zet.d) v) (hlen : l.length < zlk) (hx : ∀ x ∈ l, x.fit) : pvC C13 F 51 [v, .func (.func 52) [.agg [.ptr bf 0]] []] t = some (.bool (l.all zsk)) := by
 unfold zlk at hlen; refine zaz.2 (w51 _ _ ?_)
 unfold t51; refine za8 hr.len (zc2 (zcw ?_))
 rw [yag]; refine zqe (dd := zet.d) (P := zsk) (S := 42) (el := 41) (zs := [(.str []), (.str []), (.int .i64 0), (.int .i64 0), (.int .i64 0), (.bool false), (.int .u8 0), (.str []), (.int .u8 0), (.bool false), .nilslice, (.bool false), .nilslice, (.int .i64 0), .nilslice, (.int .u8 0), (.str []), (.int .u8 0), (.bool false), .nilslice, (.bool false), .nilslice, (.int .i64 0), .nilslice])
  (cond := fun X2 => zd9 zab.one [(.str (X2.s 0)), (.str (X2.s 1)), (.int .i64 (X2.i 2)), (.int .i64 (X2.i 3)), (.int .i64 (X2.i 4)), (.bool (X2.b 5)), (.int .u8 (X2.i 6)), (.str (X2.s 7)), (.int .u8 (X2.i 8)), (.bool (X2.b 9)), (X2.v 10), (.bool (X2.b 11)), (X2.v 12), (.int .i64 (X2.i 13)), (X2.v 14), (.int .u8 (X2.i 15)), (.str (X2.s 16)), (.int .u8 (X2.i 17)), (.bool (X2.b 18)), (X2.v 19), (.bool (X2.b 20)), (X2.v 21), (.int .i64 (X2.i 22)), (X2.v 23)]) sl42 (fun x _ => x.zs) hr (by omega) (fun i t Q h => j51_2 _ _ _ _ h) ?_ ?_ l.length 0 (by omega)
 ·intro cs h1 h2
  have h3 := zhe _ cs [] h2
  rw [List.nil_append, yay] at h3; show zd9 zab.one (zg8 [(.str []), (.str []), (.int .i64 0), (.int .i64 0), (.int .i64 0), (.bool false), (.int .u8 0), (.str []), (.int .u8 0), (.bool false), .nilslice, (.bool false), .nilslice, (.int .i64 0), .nilslice, (.int .u8 0), (.str []), (.int .u8 0), (.bool false), .nilslice, (.bool false), .nilslice, (.int .i64 0), .nilslice] (cellsOf cs) 0) = true
  rw [h3]; exact h1
 ·intro x hm cs hcs R hR
  show zcf (some (52, [.agg [.ptr bf 0], zab.agg cs])) _
  rw [zaa]; simp only []; rw [q52, zzco hF (hx x hm) hcs, zaa]
  exact hR
theorem zzi8 {bf : Nat} (hF : Cel t bf none zpp) {p : zl7} {cs : List zab} (hp : p.fit) (hr : RD t p.d cs) : pvC C13 F 26 [.agg [.ptr bf 0], .agg cs] t = some (.bool (z5s p)) := by
 obtain ⟨a, b, c, rfl, ha, hb, hc⟩ := z9i hr
 refine zaz.2 (w26 _ _ _ _ _ ?_)
 unfold t26 z5s; refine za6 ?_
 rw [q38, zn7, zaa]; refine zbe ?_
 cases h1 : zi8 p.name with
 | false => exact zbv (by simp) ⟨rfl, rfl⟩
 | true =>
  refine zat rfl (za6 ?_)
  rw [q48, zzgi ha hp.ndefs, zaa]; refine zbe ?_
  cases h2 : p.defs.all defP with
  | false => exact zbv (by simp) ⟨rfl, rfl⟩
  | true =>
   refine zat rfl (za6 ?_)
   rw [q49, z7a hb hp.ntables hp.tables, zaa]; refine zbe ?_
   cases h3 : p.tables.all zqs with
   | false => exact zbv (by simp) ⟨rfl, rfl⟩
   | true =>
    refine zat rfl (za6 ?_)
    rw [q51, z2i hF hc hp.nclauses hp.clauses, zaa]; exact zbe ⟨rfl, rfl⟩
theorem zoz {p : zl7} {cs : List zab} (hp : p.fit) (hr : RD t p.d cs) : pvC C13 F 11 [.agg cs] t = some (.bool (z5s p)) := by
 have hr' := hr
 obtain ⟨a, b, c, rfl, ha, hb, hc⟩ := z9i hr
 refine ztc (w11 _ _ _ _ ?_)
 unfold t11; refine za6 ?_
 rw [q17]; refine zwa fun bf t' h1 h2 h3 h4 h5 => ?_
 refine zlb (zsu rfl) (zat ?_ (za6 ?_))
 ·exact hr'.sameA
 ·have e : (cellsOf [zab.ptr bf 0]).v 0 = .ptr bf 0 := rfl
  rw [q26, e, zzi8 h3 hp (hr'.mono h4), zaa]
  exact zbe ⟨rfl, h4⟩
end Go.Proofs
namespace Go.Proofs
open Go Go.Am
variable [zcb]
variable {t : Tr zak}
def zo1 : List Int := [31, 28, 31, 30, 31, 30, 31, 31, 30, 31, 30, 31]
def zjy (t : Tr zak) : Prop := At t 2 0 (zo1.map fun n => zab.int .i64 n)
theorem zjy.mono {t' : Tr zak} (h : zjy t) (k : TLe t t') : zjy t' := At.mono k h
theorem zqq (x : Int) {k : Nat} (hk : 0 < k) : -(k : Int) < Int.tmod x k /\ Int.tmod x k < k := by
 have h := Int.natAbs_tmod x k
 have h2 := ybz x.natAbs (show 0 < (k : Int).natAbs by simpa using hk)
 omega
def zze1 (y : Int) : Bool := decide (Int.tmod y 4 = 0) && (!decide (Int.tmod y 100 = 0) || decide (Int.tmod y 400 = 0))
def lenD (y m : Int) : Int := if m < 1 then 0 else if 12 < m then 0 else if m = 2 /\ zze1 y = true then 29 else zo1.getD (m - 1).toNat 0
def zzao (y : Int) : Int := zag .i64 ((zag .i64 ((zag .i64 (Int.tdiv y 4)) - (zag .i64 (Int.tdiv y 100)))) + (zag .i64 (Int.tdiv y 400)))
def z28 (v0 v3 : Int) : Nat -> Int -> Int -> Int
 | 0, _, v4 => v4
 | k + 1, v5, v4 => if v5 <= Int.tmod v0 12 then z28 v0 v3 k (v5 + 1) (zag .i64 (v4 + lenD v3 v5)) else v4
def ztx (m : Int) : Int := z28 m (zag .i64 (1900 + (zag .i64 (Int.tdiv m 12)))) 11 1 (zag .i64 ((zag .i64 ((zag .i64 (365 * (zag .i64 ((zag .i64 (1900 + (zag .i64 (Int.tdiv m 12)))) - 1900)))) + zzao (zag .i64 ((zag .i64 (1900 + (zag .i64 (Int.tdiv m 12)))) - 1)))) - zzao 1899))
def zq3 (P : Int -> Bool) : Nat -> Nat -> Nat -> Int
 | 0, i, _ => (i : Int)
 | k + 1, i, j => if i < j then (if P (((i + j) / 2 : Nat) : Int) = true then zq3 P k i ((i + j) / 2) else zq3 P k ((i + j) / 2 + 1) j) else (i : Int)
theorem zzjl (y : Int) : pvC C13 F 177 [.int .i64 y] t = some (.bool (zze1 y)) := by
 refine zaz.2 (w177 _ ?_)
 unfold t177 zze1; by_cases h1 : Int.tmod y 4 = 0
 ·refine zat (yEq h1) ?_
  by_cases h2 : Int.tmod y 100 = 0
  ·refine zbv (by rw [yEq h2]; simp) ?_
   simp [wpT, h1, h2, z1n]
  ·refine zat ?_ ?_
   ·cases hq : iEq (Int.tmod y 100) 0 with
    | true => exact absurd hq (nEq h2)
    | false => rfl
   ·simp [wpT, h1, h2]
 ·refine zbv (nEq h1) ?_
  simp [wpT, h1]
theorem len_at (hG : zjy t) {m : Int} (h1 : 1 <= m) (h2 : m <= 12) : ∃ b o, zah C13 220 (.ptr 2 0) (.int .i64 (zag .i64 (m - 1))) = some (.ptr b o) /\ zau C13 3 ⟨0, t⟩ (.ptr b o) = some (.int .i64 (zo1.getD (m - 1).toNat 0)) := by
 obtain ⟨k, rfl⟩ : ∃ k : Nat, m = (k : Int) + 1 := ⟨(m - 1).toNat, by omega⟩
 have hk : k < 12 := by omega
 have e0 : ((k : Int) + 1 - 1).toNat = k := by omega
 rw [wrap_i64 (by omega) (by omega), e0, show (k : Int) + 1 - 1 = (k : Int) by omega]
 have hx : (zo1.map fun n => zab.int .i64 n)[k]? = some (.int .i64 (zo1.getD k 0)) := by
  have : k < zo1.length := hk
  simp [yae this]
 refine ⟨2, 0 + k, ?_, hG.load1 ty3 rfl hx⟩
 unfold zah; rw [ty220, zac]; have e : (zab.int .i64 (k : Int)).asNat = some k := rfl
 rw [e, zac]; simp only [zab.asSlice, zab.asPtr, zac, zce.asArr]; rw [ty3, zac, zc8.2 hk, zam]; simp
theorem z1f (hG : zjy t) (y m : Int) : pvC C13 F 160 [.int .i64 y, .int .i64 m] t = some (.int .i64 (lenD y m)) := by
 refine zaz.2 (w160 _ _ ?_)
 unfold t160 lenD; by_cases h1 : m < 1
 ·rw [if_pos h1]; exact zat (yLt h1) ⟨rfl, rfl⟩
 rw [if_neg h1]; refine zbv (nLt h1) ?_
 by_cases h2 : 12 < m
 ·rw [if_pos h2]; exact zat (yLt h2) ⟨rfl, rfl⟩
 rw [if_neg h2]; refine zbv (nLt h2) ?_
 obtain ⟨b, o, g1, g2⟩ := len_at hG (m := m) (by omega) (by omega)
 by_cases h3 : m = 2
 ·refine zat (yEq h3) (za6 ?_)
  rw [q177, zzjl, zaa]; refine zbe ?_
  cases hl : zze1 y with
  | true => rw [if_pos ⟨h3, rfl⟩]; exact zat rfl ⟨rfl, rfl⟩
  | false => rw [if_neg (by simp)]; exact zbv (by simp) (za8 g1 (za9 g2 (zc2 ⟨rfl, rfl⟩)))
 ·rw [if_neg (by simp [h3])]
  exact zbv (nEq h3) (za8 g1 (za9 g2 (zc2 ⟨rfl, rfl⟩)))
theorem z5h (hG : zjy t) (v0 v3 : Int) : ∀ (k : Nat) (v5 v4 : Int), v5 + k = 12 -> 1 <= v5 -> jp 123 2 [.int .i64 v0, .int .i64 v3, .int .i64 v4, .int .i64 v5] t (fun v t' => v = .int .i64 (z28 v0 v3 k v5 v4) /\ t' = t) := by
 have hb := zqq v0 (k := 12) (by omega)
 rw [show ((12 : Nat) : Int) = 12 from rfl] at hb
 intro k; induction k with
 | zero =>
  intro v5 v4 h1 h2; exact zzbc _ _ _ _ (zbv (nLe (by omega)) ⟨rfl, rfl⟩)
 | succ k ih =>
  intro v5 v4 h1 h2; unfold z28; by_cases h3 : v5 <= Int.tmod v0 12
  ·rw [if_pos h3]
   refine zzbc _ _ _ _ (zat (yLe h3) (za6 ?_))
   rw [q160, z1f hG, zaa]; refine zc2 (zcw ?_)
   rw [wrap_i64 (n := v5 + 1) (by omega) (by omega)]
   exact ih _ _ (by omega) (by omega)
  ·rw [if_neg h3]
   exact zzbc _ _ _ _ (zbv (nLe h3) ⟨rfl, rfl⟩)
theorem z3v (y : Int) : pvC C13 F 159 [.int .i64 y] t = some (.int .i64 (zzao y)) := zaz.2 (w159 _ ⟨rfl, rfl⟩)
theorem zpy (hG : zjy t) (m : Int) : pvC C13 F 123 [.int .i64 m] t = some (.int .i64 (ztx m)) := by
 refine zaz.2 (w123 _ (za6 ?_))
 rw [q159, z3v, zaa]; refine zc2 (za6 ?_)
 rw [q159, z3v, zaa]; exact zc2 (zcw (z5h hG m _ 11 1 _ (by omega) (by omega)))
theorem z0t {v1 : zab} {P : Int -> Bool} (hcall : ∀ n : Int, ∀ (R : zao), R (.bool (P n)) t -> zcf (zpq v1 [.int .i64 n]) fun p => Wq C13 F zay p.1 p.2 t R) :
  ∀ (k i j : Nat), j - i <= k -> j <= 100000 -> jp 157 2 [v1, .int .i64 (i : Int), .int .i64 (j : Int)] t (fun v t' => v = .int .i64 (zq3 P k i j) /\ t' = t) := by
 intro k; induction k with
 | zero =>
  intro i j h1 h2; exact zzbb _ _ _ (zbv (nLt (by omega)) ⟨rfl, rfl⟩)
 | succ k ih =>
  intro i j h1 h2; unfold zq3; by_cases h3 : i < j
  ·have e1 : zag .i64 (Int.fdiv (zag .u64 (zag .i64 ((i : Int) + (j : Int)))) 2) = (((i + j) / 2 : Nat) : Int) := by
    rw [wrap_i64 (n := (i : Int) + (j : Int)) (by omega) (by omega), za3 (by omega) (by omega), Int.fdiv_eq_ediv_of_nonneg _ (by decide), wrap_i64 (by omega) (by omega)]
    omega
   rw [if_pos h3]; refine zzbb _ _ _ (zat (yLt (by omega)) ?_)
   show zcf _ _
   rw [e1]; refine hcall _ _ (zbe ?_)
   cases hP : P (((i + j) / 2 : Nat) : Int) with
   | false =>
    rw [if_neg (by simp)]
    refine zat rfl (zcw ?_)
    rw [wrap_i64 (by omega) (by omega), show (((i + j) / 2 : Nat) : Int) + 1 = (((i + j) / 2 + 1 : Nat) : Int) by omega]
    exact ih _ _ (by omega) h2
   | true =>
    rw [if_pos rfl]; exact zbv (by simp) (zcw (ih _ _ (by omega) (by omega)))
  ·rw [if_neg h3]
   exact zzbb _ _ _ (zbv (nLt (by omega)) ⟨rfl, rfl⟩)
def zir (d : Int) : Int := zq3 (fun n => iLt d (ztx (zag .i64 (n + 1)))) 2154 0 2154
theorem z52 (hG : zjy t) (d : Int) : pvC C13 F 122 [.int .i64 d] t = some (.int .i64 (zir d)) := by
 refine ztc (w122 _ ?_)
 unfold t122; refine zb9 fun b hb hbase => ?_
 obtain ⟨t', e, hc, hle, _⟩ := zly hb [.int .i64 d] none
 refine ⟨.ptr b 0, ⟨b + 1, t'⟩, by show some (zab.ptr b 0, za0 ⟨b, t⟩ [.int .i64 d] none) = _; rw [e], za6 ?_⟩
 have hld : zau C13 3 ⟨0, t'⟩ (.ptr b 0) = some (.int .i64 d) := hc.load1 (j := 0) ty3 rfl rfl
 have : pvC C13 F 157 [.int .i64 2154, .func (.func 158) [] [.ptr b 0]] t' = some (.int .i64 (zir d)) := by
  refine zaz.2 (w157 _ _ (zcw ?_))
  refine z0t (fun n R hR => ?_) 2154 0 2154 (by omega) (by omega)
  show zcf (some (158, [zab.int .i64 n, .ptr b 0])) _
  rw [zaa]; simp only []; have : pvC C13 F 158 [zab.int .i64 n, .ptr b 0] t' = some (.bool (iLt d (ztx (zag .i64 (n + 1))))) := by
   refine zaz.2 (w158 _ _ (za9 hld (zc2 (za6 ?_))))
   rw [q123, zpy (hG.mono hle), zaa]
   exact zc2 (za9 hld (zat zvs ⟨rfl, rfl⟩))
  rw [q158, this, zaa]; exact hR
 rw [q157]; exact Wc_pv this (zc2 ⟨rfl, hle⟩)
def ymdD (d : Int) : zab := .tup [.int .i64 (zag .i64 (1900 + (zag .i64 (Int.tdiv (zir d) 12)))), .int .i64 (zag .i64 ((Int.tmod (zir d) 12) + 1)), .int .i64 (zag .i64 ((zag .i64 (d - ztx (zir d))) + 1)), .int .i64 0]
theorem ymd_ok (hG : zjy t) {d : Int} (h0 : 0 <= d) (h1 : d < 65536) : pvC C13 F 96 [.int .i64 d] t = some (ymdD d) := by
 have hd : pvC C13 F 121 [.int .i64 d] t = some (.bool true) := by
  refine zaz.2 (w121 _ (zat (yLe h0) ?_))
  rw [yLt h1]; exact ⟨rfl, rfl⟩
 refine zaz.2 (w96 _ (za6 ?_))
 rw [q121, hd, zaa]; refine zbe (zbv (by simp) (za6 ?_))
 rw [q122, z52 hG, zaa]; refine zc2 (za6 ?_)
 rw [q123, zpy hG, zaa]; exact zc2 ⟨rfl, rfl⟩
def cB (l : List Nat) : List zab := l.map fun (n : Nat) => zab.int .u8 (n : Int)
theorem ten {l : List Nat} (h : l.length = 10) : ∃ a b c d e f g h i j, l = [a, b, c, d, e, f, g, h, i, j] := by
 match l, h with
 | [a, b, c, d, e, f, g, h, i, j], _ => exact ⟨a, b, c, d, e, f, g, h, i, j, rfl⟩
theorem zpd {l : List Nat} : (cB l).length = l.length := by simp [cB]
theorem cB_set {l : List Nat} {i x : Nat} : (cB l).set i (.int .u8 (x : Int)) = cB (l.set i x) := by simp [cB, List.map_set]
theorem idx164 {b i : Nat} (h : i < 10) : zah C13 164 (.ptr b 0) (.int .i64 (i : Int)) = some (.ptr b i) := by
 unfold zah; rw [z8c, zac]; have e : (zab.int .i64 (i : Int)).asNat = some i := rfl
 rw [e, zac]; simp only [zab.asSlice, zab.asPtr, zac, zce.asArr]; rw [ty5, zac, zc8.2 h, zam]; simp
theorem zji {b : Nat} {l : List Nat} (h : Cel t b none (cB l)) (hl : l.length = 10) : zau C13 164 ⟨0, t⟩ (.ptr b 0) = some (.agg (cB l)) := by
 have := h.at.load (C := C13) (ty := 164) z8c rfl (n := 10) rfl (j := 0) (by rw [zpd]; omega)
 rw [yax] at this; rw [this]; congr 2
 rw [ybs, ybb (by rw [zpd]; omega)]
theorem zpc {b : Nat} {l m : List Nat} (h : Cel t b none (cB l)) (hb : C13.base <= b) (hl : l.length = 10) (hm : m.length = 10) : ∃ t', (∀ n, zbl C13 164 (.ptr b 0) (.agg (cB m)) ⟨n, t⟩ = some (zbh, ⟨n, t'⟩)) /\ Cel t' b none (cB m) /\ Off b t t' := by
 obtain ⟨t', h1, h2, h3⟩ := h.store (C := C13) hb (T := 164) (v := .agg (cB m)) (j := 0) z8c (by show (cB m).length = 10; rw [zpd, hm]) (by show 0 + (cB m).length <= _; rw [zpd, zpd]; omega) (by
  show zd9 zab.one (cB m) = true
  rw [zc3, ybc]; intro a ha; unfold cB at ha; obtain ⟨n, _, rfl⟩ := List.mem_map.1 ha
  rfl)
 refine ⟨t', h1, ?_, h3⟩
 have e : zv4 (cB l) 0 (zab.agg (cB m)).cells = cB m := by
  show zv4 (cB l) 0 (cB m) = cB m
  unfold zv4; rw [List.take_zero, List.nil_append, yau (by rw [zpd, zpd]; omega), ybe]
 rw [e] at h2; exact h2
abbrev z10 : List zab := [.int .u8 0, .int .u8 0, .int .u8 0, .int .u8 0, .int .u8 0, .int .u8 0, .int .u8 0, .int .u8 0, .int .u8 0, .int .u8 0]
theorem zzh {l : List Nat} (hl : l.length = 10) : z7b z10 (.agg (cB l)) = some (cellsOf (cB l)) := by
 obtain ⟨a, b, c, d, e, f, g, h, i, j, rfl⟩ := ten hl
 exact zsu rfl
theorem zwx {l : List Nat} (hl : l.length = 10) : [zab.int .u8 ((cellsOf (cB l)).i 0), .int .u8 ((cellsOf (cB l)).i 1), .int .u8 ((cellsOf (cB l)).i 2), .int .u8 ((cellsOf (cB l)).i 3), .int .u8 ((cellsOf (cB l)).i 4), .int .u8 ((cellsOf (cB l)).i 5), .int .u8 ((cellsOf (cB l)).i 6), .int .u8 ((cellsOf (cB l)).i 7), .int .u8 ((cellsOf (cB l)).i 8), .int .u8 ((cellsOf (cB l)).i 9)] = cB l := by
 obtain ⟨a, b, c, d, e, f, g, h, i, j, rfl⟩ := ten hl
 rfl
def zzkk (x : Int) : Nat := (48 + Int.tmod x 10).toNat
theorem zzce (x : Int) : zag .u8 (zag .i64 (48 + Int.tmod x 10)) = ((zzkk x : Nat) : Int) /\ zzkk x < 256 := by
 have := zqq x (k := 10) (by omega)
 rw [show ((10 : Nat) : Int) = 10 from rfl] at this
 unfold zzkk; rw [wrap_i64 (by omega) (by omega), z7q (by omega) (by omega)]
 omega
def wrL : Nat -> Int -> Nat -> List Nat -> List Nat
 | 0, _, _, l => l
 | k + 1, x, i, l => wrL k (zag .i64 (Int.tdiv x 10)) (i - 1) (l.set i (zzkk x))
theorem zqi : ∀ (k : Nat) (x : Int) (i : Nat) (l : List Nat), zax 256 l -> (wrL k x i l).length = l.length /\ zax 256 (wrL k x i l)
 | 0, x, i, l, h => ⟨rfl, h⟩
 | k + 1, x, i, l, h => by
  unfold wrL; have := zqi k (zag .i64 (Int.tdiv x 10)) (i - 1) (l.set i (zzkk x)) (fun y hy => by
   rcases List.mem_or_eq_of_mem_set hy with h1 | h1
   ·exact h y h1
   ·rw [h1]; exact (zzce x).2)
  rw [yci] at this; exact this
theorem zxb {b : Nat} (hb : C13.base <= b) {c0 c1 c2 c3 c4 c5 c6 c7 c8 c9 : Int} : ∀ (k : Nat) (from_ : Nat) (x : Int) (i : Int) (l : List Nat) (t : Tr zak), i + 1 = (from_ : Int) + k -> from_ + k <= 10 -> l.length = 10 -> Cel t b none (cB l) →
  jp 97 2 [.int .i64 (from_ : Int), .int .i64 x, .ptr b 0, .int .i64 i, .int .u8 c0, .int .u8 c1, .int .u8 c2, .int .u8 c3, .int .u8 c4, .int .u8 c5, .int .u8 c6, .int .u8 c7, .int .u8 c8, .int .u8 c9] t (fun v t' => v = .agg (cB (wrL k x i.toNat l)) /\ Off b t t') := by
 intro k; induction k with
 | zero =>
  intro from_ x i l t h1 h2 h3 h4; refine j97_2 _ _ _ _ _ _ _ _ _ _ _ _ _ _ (zbv (nLe (by omega)) (za9 (zji h4 h3) (zlb (zzh h3) (zat rfl ?_))))
  show zab.agg _ = _ /\ _
  rw [zwx h3]; exact ⟨rfl, fun _ _ => rfl⟩
 | succ k ih =>
  intro from_ x i l t h1 h2 h3 h4; obtain ⟨n, rfl⟩ : ∃ n : Nat, i = (n : Int) := ⟨i.toNat, by omega⟩
  refine j97_2 _ _ _ _ _ _ _ _ _ _ _ _ _ _ (zat (yLe (by omega)) (za8 (idx164 (by omega)) (zb9 fun m _ _ => ?_)))
  rw [(zzce x).1]
  obtain ⟨t', g1, g2, g3⟩ := h4.store1 (v := .int .u8 ((zzkk x : Nat) : Int)) hb ty5 rfl rfl rfl (j := n) (by rw [zpd]; omega)
  refine ⟨_, _, g1 m, zcw ?_⟩
  rw [cB_set] at g2; rw [wrap_i64 (n := (n : Int) - 1) (by omega) (by omega)]
  have := ih from_ (zag .i64 (Int.tdiv x 10)) ((n : Int) - 1) (l.set n (zzkk x)) t' (by omega) (by omega) (by rw [yci]; exact h3) g2
  refine Jq.mono this fun v t2 hh => ⟨?_, fun c hc => by rw [hh.2 c hc, g3 c hc]⟩
  rw [hh.1]; have e1 : ((n : Int) - 1).toNat = n - 1 := by omega
  have e2 : ((n : Int)).toNat = n := by omega
  rw [e1, e2]; rfl
theorem z40 {l : List Nat} (hl : l.length = 10) {from_ k : Nat} (hk : from_ + k <= 10) (h1 : 1 <= from_ + k) (x : Int) : pvC C13 F 97 [.agg (cB l), .int .i64 (from_ : Int), .int .i64 (k : Int), .int .i64 x] t = some (.agg (cB (wrL k x (from_ + k - 1) l))) := by
 obtain ⟨a, b, c, d, e, f, g, h, i, j, rfl⟩ := ten hl
 refine ztc ?_
 show Wf 97 [.agg [.int .u8 a, .int .u8 b, .int .u8 c, .int .u8 d, .int .u8 e, .int .u8 f, .int .u8 g, .int .u8 h, .int .u8 i, .int .u8 j], .int .i64 (from_ : Int), .int .i64 (k : Int), .int .i64 x] t _
 refine w97 _ _ _ _ _ _ _ _ _ _ _ _ _ ?_
 unfold t97; refine zb9 fun n hn hbase => ?_
 obtain ⟨t', e1, hc, hle, ho⟩ := zly hn (cB [a, b, c, d, e, f, g, h, i, j]) none
 refine ⟨.ptr n 0, ⟨n + 1, t'⟩, by show some (zab.ptr n 0, za0 ⟨n, t⟩ (cB [a, b, c, d, e, f, g, h, i, j]) none) = _; rw [e1], zcw ?_⟩
 rw [wrap_i64 (n := (from_ : Int) + (k : Int)) (by omega) (by omega), wrap_i64 (by omega) (by omega)]
 have := zxb (c0 := 0) (c1 := 0) (c2 := 0) (c3 := 0) (c4 := 0) (c5 := 0) (c6 := 0) (c7 := 0) (c8 := 0) (c9 := 0) hbase k from_ x ((from_ : Int) + (k : Int) - 1) _ t' (by omega) hk hl hc
 refine Jq.mono this fun v t2 hh => ⟨?_, fun b' y hy => ?_⟩
 ·rw [hh.1, show ((from_ : Int) + (k : Int) - 1).toNat = from_ + k - 1 by omega]
 ·have : b' ≠ n := fun e => by rw [e, hn] at hy; cases hy
  rw [hh.2 b' this]; exact hle _ _ hy
def zzh6 (d : Int) : List Nat :=
 wrL 2 (zag .i64 ((zag .i64 (d - ztx (zir d))) + 1)) 9 (wrL 2 (zag .i64 ((Int.tmod (zir d) 12) + 1)) 6 (wrL 4 (zag .i64 (1900 + (zag .i64 (Int.tdiv (zir d) 12)))) 3 [0, 0, 0, 0, 45, 0, 0, 45, 0, 0]))
theorem zqc (d : Int) : (zzh6 d).length = 10 /\ zax 256 (zzh6 d) := by
 have h0 : zax 256 [0, 0, 0, 0, 45, 0, 0, 45, 0, 0] := by intro x hx; simp at hx; omega
 have h1 := zqi 4 (zag .i64 (1900 + (zag .i64 (Int.tdiv (zir d) 12)))) 3 _ h0
 have h2 := zqi 2 (zag .i64 ((Int.tmod (zir d) 12) + 1)) 6 _ h1.2
 have h3 := zqi 2 (zag .i64 ((zag .i64 (d - ztx (zir d))) + 1)) 9 _ h2.2
 exact ⟨by unfold zzh6; rw [h3.1, h2.1, h1.1]; rfl, h3.2⟩
theorem zziz {K : zab -> T} {Q : zao} {l : List Nat} {p from_ k : Nat} {x : Int} (hl : l.length = 10) (hlt : zax 256 l) (hp : C13.base <= p) (hc : Cel t p none (cB l)) (hk : from_ + k <= 10) (h1 : 1 <= from_ + k)
  (h : ∀ t', Cel t' p none (cB (wrL k x (from_ + k - 1) l)) -> Off p t t' -> ∀ u, wp 58 (K u) t' Q) :
  wp 58 (.call 97 [.agg [(.int .u8 ((cellsOf (cB l)).i 0)), (.int .u8 ((cellsOf (cB l)).i 1)), (.int .u8 ((cellsOf (cB l)).i 2)), (.int .u8 ((cellsOf (cB l)).i 3)), (.int .u8 ((cellsOf (cB l)).i 4)), (.int .u8 ((cellsOf (cB l)).i 5)), (.int .u8 ((cellsOf (cB l)).i 6)), (.int .u8 ((cellsOf (cB l)).i 7)), (.int .u8 ((cellsOf (cB l)).i 8)), (.int .u8 ((cellsOf (cB l)).i 9))], .int .i64 (from_ : Int), .int .i64 (k : Int), .int .i64 x] fun a => .asG z10 a fun X =>
   .heavy (zbl C13 164 (.ptr p 0) (.agg [(.int .u8 (X.i 0)), (.int .u8 (X.i 1)), (.int .u8 (X.i 2)), (.int .u8 (X.i 3)), (.int .u8 (X.i 4)), (.int .u8 (X.i 5)), (.int .u8 (X.i 6)), (.int .u8 (X.i 7)), (.int .u8 (X.i 8)), (.int .u8 (X.i 9))])) K) t Q := by
 have hw := zqi k x (from_ + k - 1) l hlt
 refine za6 ?_
 rw [zwx hl, q97, z40 hl hk h1, zaa]; refine zlb (zzh (by rw [hw.1, hl])) (zb9 fun n _ _ => ?_)
 rw [zwx (by rw [hw.1, hl])]
 obtain ⟨t', g1, g2, g3⟩ := zpc hc hp hl (m := wrL k x (from_ + k - 1) l) (by rw [hw.1, hl])
 exact ⟨_, _, g1 n, h t' g2 g3 _⟩
theorem cal_ok (hG : zjy t) {d : Int} (h0 : 0 <= d) (h1 : d < 65536) : pvC C13 F 58 [.int .i64 d] t = some (.str (zzh6 d)) := by
 refine ztc (w58 _ ?_)
 unfold t58; refine za6 ?_
 rw [q96, ymd_ok hG h0 h1, zaa]; unfold ymdD; refine za8 rfl (zc2 (za8 rfl (zc2 (za8 rfl (zc2 (za8 rfl (zc2 (zbv (by rw [yEq rfl]; simp) (zat rfl ?_)))))))))
 refine zb9 fun p hp hbase => ?_
 obtain ⟨t1, e1, c1, l1, o1⟩ := zi1 (C := C13) z8c hp
 refine ⟨_, _, e1, ?_⟩
 have c1' : Cel t1 p none (cB [0, 0, 0, 0, 0, 0, 0, 0, 0, 0]) := c1
 refine zb9 fun n _ _ => ?_
 obtain ⟨t2, e2, c2, o2⟩ := zpc c1' hbase rfl (m := [0, 0, 0, 0, 45, 0, 0, 45, 0, 0]) rfl
 refine ⟨_, _, e2 n, ?_⟩
 have h0' : zax 256 [0, 0, 0, 0, 45, 0, 0, 45, 0, 0] := by intro x hx; simp at hx; omega
 refine za9 (zji c2 rfl) (zlb (zzh rfl) ?_)
 refine zziz (from_ := 0) (k := 4) rfl h0' hbase c2 (by omega) (by omega) fun t3 c3 o3 _ => ?_
 have w3 := zqi 4 (zag .i64 (1900 + (zag .i64 (Int.tdiv (zir d) 12)))) 3 _ h0'
 refine za9 (zji c3 w3.1) (zlb (zzh w3.1) ?_)
 refine zziz (from_ := 5) (k := 2) w3.1 w3.2 hbase c3 (by omega) (by omega) fun t4 c4 o4 _ => ?_
 have w4 := zqi 2 (zag .i64 ((Int.tmod (zir d) 12) + 1)) 6 _ w3.2
 rw [w3.1] at w4; refine za9 (zji c4 w4.1) (zlb (zzh w4.1) ?_)
 refine zziz (from_ := 8) (k := 2) w4.1 w4.2 hbase c4 (by omega) (by omega) fun t5 c5 o5 _ => ?_
 have hL := zqc d
 have c5' : Cel t5 p none (cB (zzh6 d)) := c5
 have hs : zcu C13 164 ⟨0, t5⟩ (.ptr p 0) none none = some (.slice p 0 10 10) := by
  obtain ⟨c, g, _⟩ := c5'
  have hk : zaq ⟨0, t5⟩ p = some (c, (cB (zzh6 d)).length, none) := by unfold zaq; rw [g]; rfl
  unfold zcu; rw [z8c, zac]; unfold zgd; simp only [zab.asStr, zab.asSlice, zab.asPtr, zce.asArr, zac]; unfold zdt; rw [ty5, zac]; have hb2 : zfn 10 10 none none = some (0, 10) := rfl
  rw [hb2, zac]; unfold zcp zbi; rw [hk]; rfl
 have hv : zk1 C13 32 9 ⟨0, t5⟩ (.slice p 0 10 10) = some (.str (zzh6 d)) := z6y z8a ty9 rfl rfl rfl ty5 rfl c5' hL.1 (fun j x hj => by
  unfold cB; rw [yav, hj]; rfl) hL.2
 refine za9 hs (za9 hv (zgc ⟨rfl, fun b y hy => ?_⟩))
 have : b ≠ p := fun e => by rw [e, hp] at hy; cases hy
 rw [o5 b this, o4 b this, o3 b this, o2 b this]; exact l1 _ _ hy
end Go.Proofs
namespace Go.Am
open Go Go.RowKit
theorem zzc7 {C : Ctx} {F : Tr zb5} {f : Nat} {args : List zab} {t : Tr zak} {Q : zao} {g : List zab -> zaf -> Option (zab × zaf)} (hg : C.prims.get f = some g) (h : ∀ X HA, Ov C.base t X HA -> ∃ v t' HA', g args HA = some (v, HA') /\ Ov C.base t' X HA' /\ Q v t') (hf : Nat.blt f yo = true := by rfl) : Wc C F f args t Q := by
 intro X HA ho; rw [zkx hf, hg]; obtain ⟨v, t', HA', h1, h2, h3⟩ := h X HA ho
 exact ⟨v, t', HA', X, h1, h2, XLe.refl _, h3⟩
end Go.Am
namespace Go.Proofs
open Go Go.Am
variable [zcb]
variable {t tf : Tr zak} {bx T : Nat} {s m : List Nat} {ex : List zab}
def BX (T : Nat) (ex : List zab) (tf t : Tr zak) (bx : Nat) (s : List Nat) : Prop :=
 C13.base <= bx /\ tf.get bx = none /\ TLe tf t /\ zax 256 s /\ zuk zn9 T (ex.length + 2) = true /\ ∃ p tv, (p = zab.nilptr \/ p = .ptr bx 0) /\ Cel t bx (some (.ty T)) (p :: tv :: ex) /\ zcn (.ty 5) C13.base tf t 1 (za2 .u8 s) tv /\ ¬ zid tv bx
theorem BX.le (h : BX T ex tf t bx s) : TLe tf t := h.2.2.1
theorem BX.both (h : BX T ex tf t bx s) {n : Nat} (hn : t.get n = none) (y : zak) : BX T ex (tf.set n y) (t.set n y) bx s := by
 obtain ⟨h1, h2, h3, ha, hM, p, tv, hp, h4, h5, h6⟩ := h
 have hbx : bx ≠ n := by intro e; obtain ⟨c, h, _⟩ := h4; rw [e, hn] at h; cases h
 refine ⟨h1, by rw [Tr.get_set, if_neg hbx]; exact h2, zvp hn h3, ha, hM, p, tv, hp, h4.off (by rw [Tr.get_set, if_neg hbx]), ?_, h6⟩
 have hb : ∀ b, zid tv b -> b ≠ n := fun b hb e => zuq h5 hb (e ▸ hn)
 rcases h5 with ⟨rfl, h5⟩ | ⟨b, cl, c, rfl, k0, k1, k2, k3, k4⟩
 ·exact .inl ⟨rfl, h5⟩
 ·have hbn := hb b (zc4.2 rfl)
  exact .inr ⟨b, cl, c, rfl, k0, by rw [Tr.get_set, if_neg hbn]; exact k1, by rw [Tr.get_set, if_neg hbn]; exact k2, k3, RDs.mono (fun c u hc => by
   have : c ≠ n := fun e => by rw [e, zj5 h3 hn] at hc; cases hc
   rw [Tr.get_set, if_neg this]; exact hc) _ _ k4⟩
theorem BX.out {n : Nat} {y : zak} (hn : tf.get n = none) (h : BX T ex (tf.set n y) t bx s) : BX T ex tf (t.del n) bx s := by
 obtain ⟨h1, h2, h3, ha, hM, p, tv, hp, h4, h5, h6⟩ := h
 have hbx : bx ≠ n := by intro e; rw [e, Tr.get_set, if_pos rfl] at h2; cases h2
 have hle : TLe tf (tf.set n y) := (zer hn y).1
 rw [Tr.get_set, if_neg hbx] at h2; refine ⟨h1, h2, fun c u hc => ?_, ha, hM, p, tv, hp, h4.off (by rw [Tr.get_del, if_neg hbx]), ?_, h6⟩
 ·have : c ≠ n := fun e => by rw [e, hn] at hc; cases hc
  rw [Tr.get_del, if_neg this]; exact h3 _ _ (hle _ _ hc)
 ·rcases h5 with ⟨rfl, h5⟩ | ⟨b, cl, c, rfl, k0, k1, k2, k3, k4⟩
  ·exact .inl ⟨rfl, h5⟩
  ·have hbn : b ≠ n := by intro e; rw [e, Tr.get_set, if_pos rfl] at k1; cases k1
   refine .inr ⟨b, cl, c, rfl, k0, by rw [Tr.get_set, if_neg hbn] at k1; exact k1, by rw [Tr.get_del, if_neg hbn]; exact k2, k3, ?_⟩
   rw [zgu] at k4 ⊢; exact k4
theorem BX.check {Q : zao} (h : BX T ex tf t bx s) (hQ : ∀ t', BX T ex tf t' bx s -> Q (.tup []) t') : Wc C13 F 46 [.ptr bx 0] t Q := by
 have h0 := h
 obtain ⟨h1, h2, h3, ha, hM, p, tv, hp, ⟨c, h4, h4'⟩, h5, h6⟩ := h
 have hg : C13.prims.get 46 = some pChk := by kernel_rfl
 refine zzc7 hg fun X HA ho => ?_
 have hk : zaq HA bx = some (c, (p :: tv :: ex).length, some (.ty T)) := by unfold zaq; rw [ho.up h4]; rfl
 have hc0 : c.get 0 = some p := h4' 0 p rfl
 rcases hp with rfl | rfl
 ·refine ⟨.tup [], t.set bx (.cells (c.set 0 (.ptr bx 0)) (zab.nilptr :: tv :: ex).length (some (.ty T))), setBlk HA bx (.cells (c.set 0 (.ptr bx 0)) (zab.nilptr :: tv :: ex).length (some (.ty T))), ?_, ho.setBlk h4 _, hQ _ ?_⟩
  ·unfold pChk zre
   simp only []; rw [hk, zac, hc0, zac]; simp only []; have e1 : (!Nat.blt bx (256 + zcb.n)) = true := by
    cases hq : Nat.blt bx (256 + zcb.n) with
    | true =>
     have h3 := zc8.1 hq
     have h1' : 256 + zcb.n <= bx := h1
     omega
    | false => rfl
   have e2 : zuk zn9 T (zab.nilptr :: tv :: ex).length = true := hM
   rw [e1, e2]; rfl
  ·refine ⟨h1, h2, fun b u hb => ?_, ha, hM, .ptr bx 0, tv, .inr rfl, ⟨_, by rw [Tr.get_set, if_pos rfl]; rfl, fun j a hj => ?_⟩, h5.keep' fun b hb => ?_, h6⟩
   ·have : b ≠ bx := fun e => by rw [e, h2] at hb; cases hb
    rw [Tr.get_set, if_neg this]; exact h3 _ _ hb
   ·rw [Tr.get_set]
    split
    ·rename_i e; subst e; exact hj
    ·rename_i e
     refine h4' j a ?_
     cases j with
     | zero => exact absurd rfl e
     | succ j => exact hj
   ·have : b ≠ bx := fun e => h6 (e ▸ hb)
    rw [Tr.get_set, if_neg this]
 ·refine ⟨.tup [], t, HA, ?_, ho, hQ _ h0⟩
  unfold pChk zre; simp only []; rw [hk, zac, hc0, zac]; simp only []; rw [zcy.2 rfl, zcy.2 rfl]; rfl
theorem fa77 {b : Nat} : za4 C13 77 1 (.ptr b 0) = some (.ptr b 1) := by kernel_rfl
theorem BX.write {Q : zao} (h : BX T ex tf t bx s) (hm : m ≠ []) (hlt : zax 256 m) (hl : s.length + m.length < 400000) (hQ : ∀ v t', BX T ex tf t' bx (s ++ m) -> Q v t') : Wc C13 F 23 [.ptr bx 0, .str m] t Q := by
 refine w23 _ _ ?_
 unfold t23; refine za6 ?_
 rw [q46]; refine h.check fun t' h' => ?_
 obtain ⟨h1, h2, h3, ha, hM, p, tv, hp, h4, h5, h6⟩ := h'
 refine za8 zf2 (za8 fa77 (za9 (h4.load1 (j := 1) z8a rfl rfl) (zb9 fun n hn hbase => ?_)))
 have hbn : n ≠ bx := by intro e; obtain ⟨c, hh, _⟩ := h4; rw [<- e, hn] at hh; cases hh
 obtain ⟨t1, g1, g2, g3, g4⟩ := zu4 el32 ⟨_, ty9, rfl⟩ co5 h5 hm hl hn hbase h3
 refine ⟨_, _, g1, za8 zf2 (za8 fa77 (zb9 fun n2 _ _ => ?_))⟩
 have h4' : Cel t1 bx (some (.ty T)) (p :: tv :: ex) := h4.off (g4 bx hbn.symm h6)
 obtain ⟨t2, e1, e2, e3⟩ := h4'.store1 (v := .slice n 0 (s.length + m.length) (s.length + m.length)) h1 z8a rfl rfl rfl (j := 1) (by simp)
 refine ⟨_, _, e1 n2, hQ _ _ ⟨h1, h2, g3.off h2 e3, fun x hx => ?_, hM, p, _, hp, e2, g2.keep' fun b hb => e3 b fun e => ?_, fun e => ?_⟩⟩
 ·rcases List.mem_append.1 hx with hx | hx
  ·exact ha x hx
  ·exact hlt x hx
 ·rw [zc4] at hb; exact hbn (hb.symm.trans e)
 ·rw [zc4] at e; exact hbn e.symm
theorem BX.len (h : BX T ex tf t bx s) : pvC C13 F 24 [.ptr bx 0] t = some (.int .i64 (s.length : Int)) := by
 obtain ⟨h1, h2, h3, ha, hM, p, tv, hp, h4, h5, h6⟩ := h
 refine zaz.2 (w24 _ ?_)
 unfold t24; have hlen := h5.len
 rw [zav] at hlen; exact za8 zf2 (za8 fa77 (za9 (h4.load1 (j := 1) z8a rfl rfl) (za8 hlen (zc2 ⟨rfl, rfl⟩))))
theorem zrm : ∀ {l : List Nat}, zax 256 l -> zd4 Go.Am.byteOf (l.map fun (n : Nat) => zab.int .u8 (n : Int)) = some l
 | [], _ => rfl
 | x :: l, h => by
  have hx : Go.Am.byteOf (.int .u8 (x : Int)) = some x := by
   show zaj (Nat.blt x 256) (some x) = _
   rw [zc8.2 (h x (.head _))]; rfl
  rw [ybn, zch, hx, zac, zrm fun y hy => h y (.tail _ hy)]
  rfl
theorem BX.string {Q : zao} (h : BX T ex tf t bx s) (hs : s ≠ []) (hl : s.length < 400000) (hQ : ∀ t', TLe tf t' -> Q (.str s) t') : Wc C13 F 25 [.ptr bx 0] t Q := by
 obtain ⟨h1, h2, h3, ha, hM, p, tv, hp, ⟨c, h4, h4'⟩, h5, h6⟩ := h
 have hg : C13.prims.get 25 = some pStr := by kernel_rfl
 rcases h5 with ⟨rfl, h5⟩ | ⟨b, cl, d, rfl, k0, k1, k2, k3, k4⟩
 ·exact absurd (ybd.1 (by rw [<- zav (k := .u8), h5]; rfl)) hs
 have hpos : 0 < s.length := List.length_pos_iff.2 hs
 rw [zav, Nat.mul_one] at k2; rw [zgu] at k4; subst k4; have hbytes : ∀ j a, (s.map fun (n : Nat) => zab.int .u8 (n : Int))[j]? = some a -> d.get j = some a := by
  intro j a hj; have hj' : (zh1 .u8 s)[j]? = some [a] := by
   unfold zh1; rw [yav] at hj ⊢
   cases hx : s[j]? with
   | none => rw [hx] at hj; cases hj
   | some x => rw [hx] at hj; cases hj; rfl
  have := (k3 j _ hj').2 0 a rfl
  rw [Nat.mul_one, ybu] at this; exact this
 refine zzc7 hg fun X HA ho => ?_
 have hk : zaq HA bx = some (c, (p :: zab.slice b 0 (za2 .u8 s).length (za2 .u8 s).length :: ex).length, some (.ty T)) := by unfold zaq; rw [ho.up h4]; rfl
 have hk2 : zaq HA b = some (d, s.length, some (.ty 5)) := by unfold zaq; rw [ho.up k2]; rfl
 have hc1 := h4' 1 _ rfl
 refine ⟨.str s, t.del b, ⟨HA.next, HA.t.del b⟩, ?_, ho.delBlk k2, hQ _ fun e u he => ?_⟩
 ·unfold pStr zn4
  simp only []; rw [hk, zac, hc1, zac]; simp only [zab.asSlice, zac, zav]; rw [hk2, zac]; simp only []; have hm := zzae hbytes s.length 0 (by simp)
  rw [ybs, ybb (by simp)] at hm
  rw [hm, zac, zrm ha, zac]; have e1 : (!Nat.blt b (256 + zcb.n)) = true := by
   cases hq : Nat.blt b (256 + zcb.n) with
   | true =>
    have h3 := zc8.1 hq
    have h1' : 256 + zcb.n <= b := k0
    omega
   | false => rfl
  rw [e1, zcy.2 rfl, zc8.2 hpos, zh2.2 (yal _), zc8.2 (show s.length < 1000000000 by omega), zcy.2 rfl]
  rfl
 ·have : e ≠ b := fun h => by rw [h, k1] at he; cases he
  rw [Tr.get_del, if_neg this]; exact h3 _ _ he
end Go.Proofs
namespace Go.Proofs
open Go Go.Am
variable [zcb]
variable {t tf : Tr zak}
def zv5 : zew := ⟨false, [1]⟩
def znr : ztm := ⟨1, 0, 0, ⟨zv5, zv5⟩⟩
theorem z91 : zd5.fit ⟨zv5, zv5⟩ := by
 refine ⟨⟨by decide, by decide⟩, ?_, ?_⟩ <;> intro x hx <;> simp [zv5] at hx <;> omega
theorem zyd : zjp ⟨zv5, zv5⟩ = true := by
 decide
theorem zy1 : zr9 ⟨zv5, zv5⟩ = [49] := by
 unfold zr9 zqj intN; simp [zv5, zr3, val, zgx]
theorem zzfb : zpo 1 = [49] := by
 have := zr2 1
 rw [zgx (by decide)] at this
 exact this
theorem ztz : znz [49] = [49] := by
 unfold znz zzx; simp [zes]
def zzi4 : List Nat := [114, 111, 119, 32] ++ [49] ++ [32, 107, 110, 111, 119, 110, 32] ++ zzh6 0 ++ [32, 105, 115, 32] ++ [49]
theorem zvv : zzi4.length = 27 := by
 unfold zzi4; simp only [yah, (zqc 0).1]
 rfl
theorem zzi3 : zax 256 zzi4 := by
 intro x hx; unfold zzi4 at hx; simp only [List.mem_append, or_assoc] at hx; rcases hx with h | h | h | h | h | h
 ·simp at h; omega
 ·simp at h; omega
 ·simp at h; omega
 ·exact (zqc 0).2 x h
 ·simp at h; omega
 ·simp at h; omega
theorem z5l (hG : zjy t) {cs : List zab} (h : RD t znr.d cs) : pvC C13 F 44 [.agg cs, .bool false] t = some (.str zzi4) := by
 obtain ⟨u, v, rfl, hu, hv⟩ := zzhc h
 have e1 : pvC C13 F 59 [.int .i64 1] t = some (.str [49]) := by
  have := z6d (t := t) (n := 1) (by omega) (by omega)
  rw [zzfb, ztz] at this; exact this
 have e2 : pvC C13 F 57 [.agg [.bool znr.f.n.neg, u, .bool znr.f.d.neg, v]] t = some (.str [49]) := by
  have := z1q hu hv z91 zyd
  rw [show znr.f = ⟨zv5, zv5⟩ from rfl, zy1, ztz] at this; exact this
 refine zaz.2 (w44 _ _ _ _ _ _ _ _ ?_)
 unfold t44; refine za6 ?_
 rw [q59, show znr.a = 1 from rfl, e1, zaa]; refine zgc (zbv (by simp) (zcw ?_))
 refine j44_9 _ _ _ _ _ _ _ _ ?_
 unfold t44_9; refine za8 (zeh (by simp)) (zgc (za8 (zeh (by simp)) (zgc (za6 ?_))))
 rw [q58, show znr.known = 0 from rfl, cal_ok hG (by omega) (by omega), zaa]
 have hl := (zqc 0).1
 refine zgc (zat ?_ (za8 (zeh (by simp; omega)) (zgc (za8 (zeh (by simp; omega)) (zgc (za6 ?_))))))
 ·have hs : Am.same.sames 9 [zab.bool znr.f.n.neg, u, .bool znr.f.d.neg, v] [zab.bool znr.f.n.neg, u, .bool znr.f.d.neg, v] = true := by
   simp only [Am.same.sames, zxx, hu.same, hv.same, Bool.and_self]
  exact hs
 ·rw [q57, e2, zaa]
  refine zgc (za8 (zeh (by simp; omega)) (zgc ⟨?_, rfl⟩))
  unfold zzi4; rfl
theorem fa46 {b k : Nat} (hk : k < 4) : za4 C13 46 k (.ptr b 0) = some (.ptr b k) := by
 have h : zg2 C13 46 k = some k := by
  unfold zg2; rw [ty46, zac]; simp only [zce.asStruct, zac]; have : k = 0 \/ k = 1 \/ k = 2 \/ k = 3 := by omega
  rcases this with e | e | e | e <;> rw [e] <;> rfl
 unfold za4; rw [h, zac]; simp only [zab.asPtr, zac, yax]
def zs3 (n : Nat) : zfo := ⟨[116], false, List.replicate n znr⟩
theorem zzey {l w n : Nat} {name : List Nat} {tabs : zab} {I : Nat -> Tr zak -> Prop} {E : Tr zak -> Prop} {Q : zao} (hn : n < 100000) (hname : name.length < 100)
  (hI : ∀ k t, I k t -> TLe tf t) (hG : zjy tf) (c0 : Cel tf w none [.str name, .nilslice, tabs, .nilslice]) (r0 : RSl tf 3 [(zs3 n).d] tabs)
  (hy : ∀ k t s Q1, I k t -> (k = 0 /\ s = [112, 108, 97, 110, 32] ++ name \/ k = 1 /\ s = [116, 97, 98, 108, 101, 32, 116, 32, 111, 110, 101] \/ 2 <= k /\ k < n + 2 /\ s = zzi4) -> (∀ t', E t' -> Q1 (.bool false) t') -> (∀ t', I (k + 1) t' -> Q1 (.bool true) t') -> Wq C13 F zay (yo + l) [.str s] t Q1)
  (hE : ∀ t, E t -> Q (.tup []) t) (hF : ∀ t, I (n + 2) t -> Q (.tup []) t) (h0 : I 0 t) : Wc C13 F 42 [.func (.yld l) [] [], .ptr w 0] t Q := by
 have cy : ∀ (f : Nat) (s : List Nat) (K : zab -> T) (t : Tr zak), Wq C13 F zay (yo + l) [.str s] t (fun v t' => wpT C13.base (Wq C13 F zay) (Jq C13 F f) (K v) t' Q) -> wp f (.callv (.func (.yld l) [] []) [.str s] K) t Q := by
  intro f s K t h; exact h
 have c1 := c0.up (hI 0 t h0)
 refine w42 _ _ ?_
 unfold t42; refine za8 (fa46 (by decide)) (za9 (c1.load1 (j := 0) ty9 rfl rfl) (zgc (za8 (zeh (by simp; omega)) (zgc (cy _ _ _ _ ?_)))))
 refine hy 0 t _ _ h0 (.inl ⟨rfl, rfl⟩) (fun t' he => zbe (zat rfl (hE t' he))) fun t1 h1 => zbe (zbv (by simp) ?_)
 have c1 := c0.up (hI 1 t1 h1)
 have r1 := r0.mono (hI 1 t1 h1)
 refine za8 (fa46 (by decide)) (za9 (c1.load1 (j := 1) ty43 rfl rfl) (za8 (v := .int .i64 0) rfl (zc2 (zcw ?_))))
 refine j42_2 _ _ _ _ _ ?_
 unfold t42_2; refine zbv (nLt (by omega)) (za8 (fa46 (by decide)) (za9 (c1.load1 (j := 2) ty44 rfl rfl) (za8 r1.len (zc2 (zcw ?_)))))
 refine j42_6 _ _ _ _ _ ?_
 unfold zziw; refine zat (yLt (by simp)) ?_
 obtain ⟨b0, off0, cs0, g1, g2, _, _, g50⟩ := zpi.at (t := tf) sl44 (by simp) r0 (i := 0) (d := (zs3 n).d) rfl
 obtain ⟨rows, rfl, hr0⟩ := z3e g50
 have ld : zau C13 53 ⟨0, t1⟩ (.ptr b0 off0) = some (znv true [.str (zs3 n).name, .bool (zs3 n).two, rows]) := znw (H := ⟨0, tf⟩) (HA := ⟨0, t1⟩) (hI 1 t1 h1) g2
 rw [show ((0 : Nat) : Int) = 0 from rfl] at g1
 refine za8 g1 (za9 ld ?_)
 rw [zqn]; refine zlb (zst g50 (zfo.zs _)) ?_
 have hrl : rows.one = true := hr0.one
 refine zat ?_ (zbv ?_ (zcw ?_))
 ·show zd9 zab.one [.str (zs3 n).name, .bool (zs3 n).two, rows] = true
  rw [zc3]; simp only [ybh, ybl, hrl]; rfl
 ·show ¬ (false = true)
  simp
 refine j42_31 _ _ _ _ _ _ _ _ _ ?_
 unfold zzgz; show wp 42 _ t1 Q
 refine za8 (zeh (by show _ + [116].length < _; simp)) (zgc (za8 (zeh (by show ([116, 97, 98, 108, 101, 32] ++ [116]).length + _ < _; simp)) (zgc (cy _ _ _ _ ?_))))
 refine hy 1 t1 _ _ h1 (.inr (.inl ⟨rfl, rfl⟩)) (fun t' he => zbe (zat rfl (hE t' he))) fun t2 h2 => zbe (zbv (by simp) ?_)
 have hrl2 : (zs3 n).rows.length = n := by simp [zs3]
 have hlen := hr0.len
 rw [yag, hrl2] at hlen; refine za8 hlen (zc2 (zcw ?_))
 have loop : ∀ (m i : Nat) (t : Tr zak), i + m = n -> I (i + 2) t -> jp 42 10 [.func (.yld l) [] [], .ptr w 0, tabs, .int .i64 1, .int .i64 0, rows, .int .i64 (n : Int), .int .i64 (i : Int), .str [116], .bool false, rows] t Q := by
  intro m; induction m with
  | zero =>
   intro i t hi h; refine zzhl _ _ _ _ _ _ _ _ _ _ _ ?_
   unfold z8n; refine zbv (nLt (by omega)) (zcw ?_)
   refine j42_6 _ _ _ _ _ ?_
   unfold zziw; refine zbv (nLt (by rw [wrap_i64 (by omega) (by omega)]; omega)) ?_
   refine za8 (fa46 (by decide)) (za9 ((c0.up (hI _ t h)).load1 (j := 3) ty42 rfl rfl) (za8 (v := .int .i64 0) rfl (zc2 (zcw ?_))))
   refine j42_14 _ _ _ _ ?_
   unfold zzg0; refine zbv (nLt (by omega)) ?_
   have : i = n := by omega
   subst this; exact hF t h
  | succ m ih =>
   intro i t hi h; refine zzhl _ _ _ _ _ _ _ _ _ _ _ ?_
   unfold z8n; refine zat (yLt (by omega)) ?_
   obtain ⟨b, off, cs, g1, g2, g3, g4, g5⟩ := zpi.at sl51 (by simp) (hr0.mono (hI _ t h)) (i := i) (d := znr.d) (by simp [zs3, List.getElem?_replicate]; omega)
   refine za8 g1 (za9 g2 ?_)
   rw [zqn]; refine zlb (zst g5 (ztm.zs _)) ?_
   have hmk := g5.mk (ztm.zs znr)
   have hcs : [zab.int .i64 ((cellsOf cs).i 0), .int .i64 ((cellsOf cs).i 1), .int .i64 ((cellsOf cs).i 2), .bool ((cellsOf cs).b 3), (cellsOf cs).v 4, .bool ((cellsOf cs).b 5), (cellsOf cs).v 6] = cs := hmk
   rw [hcs]; refine zat g5.all (za6 ?_)
   rw [q44, z5l (hG.mono (hI _ t h)) g5, zaa]
   refine zgc (cy _ _ _ _ ?_)
   refine hy (i + 2) t _ _ h (.inr (.inr ⟨by omega, by omega, rfl⟩)) (fun t' he => zbe (zat rfl (hE t' he))) fun t3 h3 => zbe (zbv (by simp) (zcw ?_))
   rw [wrap_i64 (by omega) (by omega), show (i : Int) + 1 = ((i + 1 : Nat) : Int) by omega]
   exact ih (i + 1) t3 (by omega) (by rw [show i + 1 + 2 = i + 2 + 1 by omega]; exact h3)
 exact loop n 0 t2 (by omega) h2
end Go.Proofs
namespace Go.Proofs
open Go Go.Am
variable [zcb]
variable {t tf : Tr zak}
def zis (m k : Nat) : Nat := if k = 0 then 0 else if k = 1 then 6 + m else 18 + m + 28 * (k - 2)
theorem z69 {b T : Nat} {y : ATy} {lo : Option Lo} (hT : C13.tys.get T = some y) (hlo : zh7 C13 T = lo) (hb : t.get b = none) : ∃ t', zlp C13 T ⟨b, t⟩ = some (.ptr b 0, ⟨b + 1, t'⟩) /\ Cel t' b lo y.zero /\ TLe t t' /\ Off b t t' := by
 obtain ⟨t', h1, h2, h3, h4⟩ := zly hb y.zero lo
 refine ⟨t', ?_, h2, h3, h4⟩
 unfold zlp; rw [hT, zac, hlo, h1]
theorem z56 {r : zk5} (h1 : r.state = .ready) (h2 : r.pending = none) : zro true r = r := by
 obtain ⟨a, b, c, d, e, f, g, h, i⟩ := r
 have h1 : a = .ready := h1
 have h2 : b = none := h2
 subst h1; subst h2; rfl
theorem zzbw {n : Nat} {name : List Nat} {tabs : zab} {Q : zao} (hn : n < 3000) (hname : name.length < 24) (hnb : zax 256 name) (hG : zjy t) (hp : z5s ⟨name, [], [zs3 n], []⟩ = true) (hfit : zl7.fit ⟨name, [], [zs3 n], []⟩) (r0 : RSl t 3 [(zs3 n).d] tabs)
  (hQ : ∀ t' s e, TLe t t' -> (if 18 + name.length + 28 * n <= 65536 then s.length = 18 + name.length + 28 * n /\ e = 0 else s = [] /\ e = 3) -> Q (.tup [.str s, .int .i64 e]) t') :
  Wc C13 F 10 [.agg [.str name, .nilslice, tabs, .nilslice]] t Q := by
 refine w10 _ _ _ _ ?_
 unfold t10; refine zb9 fun p0 hp0 hb0 => ?_
 obtain ⟨t1, e1, c1, l1, o1⟩ := zi1 (C := C13) ty9 hp0
 refine ⟨_, _, e1, zb9 fun p1 hp1 hb1 => ?_⟩
 obtain ⟨t2, e2, c2, l2, o2⟩ := zi1 (C := C13) ty35 hp1
 refine ⟨_, _, e2, za6 ?_⟩
 have l02 : TLe t t2 := l1.trans l2
 have hrd : RD t2 (zl7.d ⟨name, [], [zs3 n], []⟩) [.str name, .nilslice, tabs, .nilslice] := by
  unfold zl7.d; rw [zi2]; refine ⟨[[.str name], [.nilslice], [tabs], [.nilslice]], rfl, ?_⟩
  have hnil : ∀ sz, RD t2 (.sl sz []) [zab.nilslice] := fun sz => zl8.2 ⟨_, rfl, [], .inl ⟨rfl, rfl⟩, zcr.2 rfl⟩
  refine zba.2 ⟨_, _, rfl, zpj.2 rfl, zba.2 ⟨_, _, rfl, hnil 3, zba.2 ⟨_, _, rfl, zl8.2 ⟨_, rfl, r0.mono l02⟩, zba.2 ⟨_, _, rfl, hnil 24, zcr.2 rfl⟩⟩⟩⟩
 rw [q11, zoz hfit hrd, hp, zaa]; refine zbe (zbv (by simp) (zb9 fun bx hbx hbb => ?_))
 obtain ⟨t3, e3, c3, l3, o3⟩ := z69 (T := 77) (lo := some (.ty 77)) ty77 (by kernel_rfl) hbx
 refine ⟨_, _, e3, za6 ?_⟩
 have n01 : p0 ≠ p1 := by intro e; obtain ⟨c, h, _⟩ := c1; rw [e, hp1] at h; cases h
 have n0x : p0 ≠ bx := by intro e; obtain ⟨c, h, _⟩ := c1; have h := l2 _ _ h; rw [e, hbx] at h; cases h
 have n1x : p1 ≠ bx := by intro e; obtain ⟨c, h, _⟩ := c2; rw [e, hbx] at h; cases h
 rw [q22]; refine w22 _ _ _ _ ?_
 unfold t22; refine zb9 fun w hw hwb => ?_
 generalize hy : (zak.cells (Tr.ofList [.str name, .nilslice, tabs, .nilslice]) 4 none) = yw
 have ew : z0e (.agg [.str name, .nilslice, tabs, .nilslice]) ⟨w, t3⟩ = some (.ptr w 0, ⟨w + 1, t3.set w yw⟩) := by rw [<- hy]; rfl
 refine ⟨_, _, ew, ?_⟩
 show wp 10 _ (t3.set w yw) Q
 have nwx : w ≠ bx := by intro e; obtain ⟨c, h, _⟩ := c3; rw [<- e, hw] at h; cases h
 have hB0 : BX 77 [] t2 t3 bx [] := ⟨hbb, hbx, l3, (by intro x hx; cases hx), rfl, .nilptr, .nilslice, .inl rfl, c3, .inl ⟨rfl, rfl⟩, zr4⟩
 have hB1 := hB0.both hw yw
 have h2w : t2.get w = none := zj5 l3 hw
 have l2f : TLe t2 (t2.set w yw) := (zer h2w yw).1
 generalize hf : t2.set w yw = tF at hB1 l2f
 generalize t3.set w yw = tR at hB1
 have cw : Cel tF w none [.str name, .nilslice, tabs, .nilslice] := by
  rw [<- hf]; exact ⟨_, by rw [Tr.get_set, if_pos rfl, <- hy]; rfl, fun j a hj => by rw [Tr.get_ofList]; exact hj⟩
 have cp0 : Cel tF p0 none [.str []] := (c1.off (o2 p0 n01)).up l2f
 have cp1 : Cel tF p1 none [.int .i64 0] := Cel.up c2 l2f
 have l0f : TLe t tF := l02.trans l2f
 have hp0t : t.get p0 = none := hp0
 have hp1t : t.get p1 = none := zj5 l1 hp1
 refine ⟨Nat.le_add_right _ _, fun l r hl0 hlb hr1 hr2 hyR => ?_⟩
 have hra : zik (npC C13) (.func (.func 42) [] [.ptr w 0]) l = some (42, [.func (.yld l) [] [], .ptr w 0]) := by
  unfold zik; simp only [zab.asFunc, zac]; have : npC C13 42 = true := by kernel_rfl
  rw [this]; rfl
 rw [hra, zaa]; have hfl : tF.get l = none := zj5 hB1.le hl0
 have lfl : TLe tF (tF.set l (.loop r)) := (zer hfl _).1
 rw [show Wq C13 F zay 42 = Wc C13 F 42 by funext a m R; exact q42]
 have nl : ∀ {b : Nat} {lo : Option Lo} {cs : List zab}, Cel tF b lo cs -> b ≠ l := fun h e => by obtain ⟨c, h, _⟩ := h; rw [e, hfl] at h; cases h
 refine zzey (tf := tF.set l (.loop r)) (n := n) (name := name) (tabs := tabs)
  (I := fun k t' => ∃ s, s.length = zis name.length k /\ zis name.length k <= 65536 /\ BX 77 [] (tF.set l (.loop r)) t' bx s)
  (E := fun t' => 65536 < 18 + name.length + 28 * n /\ t'.get l = some (.loop (zro false r)) /\ Cel t' p0 none [.str []] /\ Cel t' p1 none [.int .i64 3] /\ ∀ b y, t.get b = some y -> t'.get b = some y /\ b ≠ l) (by omega) (by omega)
  (fun k t' h => by obtain ⟨s, _, _, h⟩ := h; exact h.le) (hG.mono (l0f.trans lfl)) (cw.up lfl) ((r0.mono l0f).mono lfl) ?_ ?_ ?_ ⟨[], rfl, by simp [zis], hB1.both hl0 (.loop r)⟩
 ·intro k t' ln Q1 hI hln hE hT
  obtain ⟨s, hs1, hs2, hB⟩ := hI
  have hgl : t'.get l = some (.loop r) := hB.le _ _ (by rw [Tr.get_set, if_pos rfl])
  have hln2 : ln ≠ [] /\ zax 256 ln /\ zis name.length k + ln.length + 1 = zis name.length (k + 1) /\ ln.length < 100 := by
   rcases hln with ⟨rfl, rfl⟩ | ⟨rfl, rfl⟩ | ⟨h2, h3, rfl⟩
   ·refine ⟨by simp, fun x hx => ?_, ?_, by simp; omega⟩
    ·rcases List.mem_append.1 hx with h | h
     ·simp at h; omega
     ·exact hnb x h
    ·unfold zis; simp; omega
   ·refine ⟨by simp, fun x hx => by simp at hx; omega, ?_, by simp⟩
    unfold zis; simp; omega
   ·refine ⟨fun e => by have := zvv; rw [e] at this; simp at this, zzi3, ?_, by rw [zvv]; omega⟩
    rw [zvv]; unfold zis; rw [if_neg (by omega), if_neg (by omega), if_neg (by omega), if_neg (by omega)]
    omega
  obtain ⟨g1, g2, g3, g4⟩ := hln2
  have hBo := BX.out hfl hB
  refine hyR [.str ln] t' Q1 rfl hgl ?_
  show jp 10 2 [.ptr p0 0, .ptr p1 0, .ptr bx 0, .str ln] _ _
  refine j10_2 _ _ _ _ ?_
  unfold t10_2; refine za6 ?_
  rw [q23]; refine hBo.write g1 g2 (by omega) fun _ u1 hB2 => za6 ?_
  rw [q23]; refine hB2.write (m := [10]) (by simp) (fun x hx => by simp at hx; omega) (by simp; omega) fun _ u2 hB3 => za6 ?_
  rw [q24, hB3.len, zaa]; have hlen : (s ++ ln ++ [10]).length = zis name.length (k + 1) := by simp; omega
  rw [hlen]; refine zc2 ?_
  by_cases hbig : 65536 < zis name.length (k + 1)
  ·refine zat (yLt (by omega)) (zb9 fun m1 _ _ => ?_)
   obtain ⟨v1, d1, d2, d3⟩ := (cp0.up hB3.le).store1 (v := .str []) hb0 ty9 rfl rfl rfl (j := 0) (by simp)
   refine ⟨_, _, d1 m1, zb9 fun m2 _ _ => ?_⟩
   have cp1' : Cel v1 p1 none [.int .i64 0] := (cp1.up hB3.le).off (d3 p1 n01.symm)
   obtain ⟨v2, f1, f2, f3⟩ := cp1'.store1 (v := .int .i64 3) hb1 ty35 rfl rfl rfl (j := 0) (by simp)
   refine ⟨_, _, f1 m2, fun hnl => ⟨false, rfl, hE _ ?_⟩⟩
   refine ⟨?_, by rw [Tr.get_set, if_pos rfl], (d2.off (f3 p0 n01)).setOff (nl cp0) _, f2.setOff (nl cp1) _, fun b y hb => ?_⟩
   ·have hk : k + 1 <= n + 2 := by
     rcases hln with ⟨rfl, _⟩ | ⟨rfl, _⟩ | ⟨h2, h3, _⟩ <;> omega
    unfold zis at hbig; split at hbig
    ·omega
    ·split at hbig
     ·omega
     ·omega
   ·have hbl : b ≠ l := fun e => by have := l0f _ _ hb; rw [e, hfl] at this; cases this
    have hb0' : b ≠ p0 := fun e => by rw [e, hp0t] at hb; cases hb
    have hb1' : b ≠ p1 := fun e => by rw [e, hp1t] at hb; cases hb
    refine ⟨?_, hbl⟩
    rw [Tr.get_set, if_neg hbl, f3 b hb1', d3 b hb0']; exact hB3.le _ _ (l0f _ _ hb)
  ·refine zbv (nLt (by omega)) fun hnl => ⟨true, rfl, ?_⟩
   rw [z56 hr1 hr2]; exact hT _ ⟨_, hlen, by omega, hB3.both hnl _⟩
 ·intro t' ⟨h1, h2, h3, h4, h5⟩
  refine .inr ⟨h2, ?_⟩
  have h3' : Cel (t'.del l) p0 none [.str []] := h3.off (by rw [Tr.get_del, if_neg (nl cp0)])
  have h4' : Cel (t'.del l) p1 none [.int .i64 3] := h4.off (by rw [Tr.get_del, if_neg (nl cp1)])
  refine za9 (h3'.load1 (j := 0) ty9 rfl rfl) (za9 (h4'.load1 (j := 0) ty35 rfl rfl) ?_)
  refine hQ _ [] 3 (fun b y hb => ?_) (by rw [if_neg (by omega)]; exact ⟨rfl, rfl⟩)
  rw [Tr.get_del, if_neg (h5 b y hb).2]
  exact (h5 b y hb).1
 ·intro t' ⟨s, h1, h2, hB⟩
  have hlen : zis name.length (n + 2) = 18 + name.length + 28 * n := by
   unfold zis; rw [if_neg (by omega), if_neg (by omega)]
   omega
  have hgl : t'.get l = some (.loop r) := hB.le _ _ (by rw [Tr.get_set, if_pos rfl])
  refine .inl ⟨hgl, ?_⟩
  have hBo := BX.out hfl hB
  have hs : s ≠ [] := fun e => by rw [e, hlen] at h1; simp at h1; omega
  refine za6 ?_
  rw [q25]; refine hBo.string hs (by omega) fun u hle => ?_
  refine zgc (zb9 fun m1 _ _ => ?_)
  obtain ⟨v1, d1, d2, d3⟩ := (cp0.up hle).store1 (v := .str s) hb0 ty9 rfl rfl rfl (j := 0) (by simp)
  refine ⟨_, _, d1 m1, zb9 fun m2 _ _ => ?_⟩
  have cp1' : Cel v1 p1 none [.int .i64 0] := (cp1.up hle).off (d3 p1 n01.symm)
  obtain ⟨v2, f1, f2, f3⟩ := cp1'.store1 (v := .int .i64 0) hb1 ty35 rfl rfl rfl (j := 0) (by simp)
  refine ⟨_, _, f1 m2, ?_⟩
  have d2' : Cel v2 p0 none [.str s] := d2.off (f3 p0 n01)
  refine za9 (d2'.load1 (j := 0) ty9 rfl rfl) (za9 (f2.load1 (j := 0) ty35 rfl rfl) ?_)
  refine hQ _ s 0 (fun b y hb => ?_) (by rw [if_pos (by omega), h1, hlen]; exact ⟨rfl, rfl⟩)
  have hb0' : b ≠ p0 := fun e => by rw [e, hp0t] at hb; cases hb
  have hb1' : b ≠ p1 := fun e => by rw [e, hp1t] at hb; cases hb
  rw [f3 b hb1', d3 b hb0']; exact hle _ _ (l0f _ _ hb)
theorem el51 : ElTy C13 51 55 7 := ⟨⟨_, ty51, rfl, rfl⟩, ⟨_, ty55, rfl, rfl, by decide, by decide⟩, fun y h => by rw [ty55] at h; cases h; rfl⟩
theorem zzi2 {r : ztm} (h : r = znr) : zzha false r = true := by
 subst h; have hF : zra ⟨zv5, zv5⟩ = true := by
  unfold zra; rw [zy1, zyd]; decide
 unfold zzha zzhk zzch; rw [show znr.f = ⟨zv5, zv5⟩ from rfl, hF]; decide
theorem zzeh {n : Nat} {name : List Nat} (h : zi8 name = true) : z5s ⟨name, [], [zs3 n], []⟩ = true := by
 have h1 : zi8 (zs3 n).name = true := by show zi8 [116] = true; kernel_rfl
 have h2 : (zs3 n).rows.all (zzha (zs3 n).two) = true := by
  rw [ybc]; intro r hr; exact zzi2 (List.eq_of_mem_replicate hr)
 unfold z5s; simp only [h, ybh, ybl, ybo, Bool.and_true]; unfold zqs; rw [h1, h2]; rfl
theorem zzj9 {n : Nat} {name : List Nat} (hn : n < 3000) (h : name.length < 24) : zl7.fit ⟨name, [], [zs3 n], []⟩ := by
 have hb : zlk = 1125899906842624 := rfl
 refine ⟨by rw [hb]; show name.length < _; omega, by rw [hb]; show 0 < _; omega, by rw [hb]; show 1 < _; omega, by rw [hb]; show 0 < _; omega, (fun d h => by cases h), fun x hx => ?_, (fun c h => by cases h)⟩
 have : x = zs3 n := yce.1 hx
 subst this; refine ⟨by rw [hb]; show 1 < _; omega, by rw [hb]; show (List.replicate n znr).length < _; rw [List.length_replicate]; omega, fun r hr => ?_⟩
 have : r = znr := List.eq_of_mem_replicate hr
 subst this; exact ⟨⟨by decide, by decide⟩, ⟨by decide, by decide⟩, ⟨by decide, by decide⟩, z91⟩
theorem zziq {b : Nat} (hb : t.get b = none) : ∃ t', za5 C13 44 1 [(0, .agg [.str [116], .bool false, .nilslice])] ⟨b, t⟩ = some (.slice b 0 1 1, ⟨b + 1, t'⟩) /\ Cel t' b none [.str [116], .bool false, .nilslice] /\ TLe t t' /\ Off b t t' := by
 obtain ⟨t', h1, h2, h3, h4⟩ := zly hb [.str [116], .bool false, .nilslice] none
 refine ⟨t', ?_, h2, h3, h4⟩
 unfold za5; rw [ty44, zac]; simp only [zce.asSlice, zac]; rw [ty53, zac, <- h1]; rfl
theorem z4m {n m : Nat} {name : List Nat} {tabs : zab} (hn : n < 3000) (hname : name.length < 24) (hnb : zax 256 name) (hN : zi8 name = true) (hm : m = 18 + name.length + 28 * n) (hG : zjy t) (r0 : RSl t 3 [(zs3 n).d] tabs) :
  jp 4 29 [.int .i64 (m : Int), .str name, .nilslice, tabs, .nilslice] t (fun v _ => v = .bool true) := by
 refine j4_29 _ _ _ _ _ ?_
 unfold t4_29; refine za6 ?_
 rw [q10]; have hp := zzeh (n := n) hN
 have hf := zzj9 (n := n) hn hname
 refine zzbw hn hname hnb hG hp hf r0 fun t' s e hle he => ?_
 refine za8 rfl (zgc (za8 rfl (zc2 ?_)))
 by_cases h : 18 + name.length + 28 * n <= 65536
 ·rw [if_pos h] at he
  refine zbv (nLt (by omega)) (zat (yEq he.2) ?_)
  show zab.bool _ = zab.bool true
  rw [zfg, he.1, yEq (by omega)]
 ·rw [if_neg h] at he
  obtain ⟨rfl, rfl⟩ := he
  refine zat (yLt (by omega)) (zat rfl (zat (yEq rfl) (za6 ?_)))
  have hrd : RD t' (zl7.d ⟨name, [], [zs3 n], []⟩) [.str name, .nilslice, tabs, .nilslice] := by
   unfold zl7.d; rw [zi2]; refine ⟨[[.str name], [.nilslice], [tabs], [.nilslice]], rfl, ?_⟩
   have hnil : ∀ sz, RD t' (.sl sz []) [zab.nilslice] := fun sz => zl8.2 ⟨_, rfl, [], .inl ⟨rfl, rfl⟩, zcr.2 rfl⟩
   refine zba.2 ⟨_, _, rfl, zpj.2 rfl, zba.2 ⟨_, _, rfl, hnil 3, zba.2 ⟨_, _, rfl, zl8.2 ⟨_, rfl, r0.mono hle⟩, zba.2 ⟨_, _, rfl, hnil 24, zcr.2 rfl⟩⟩⟩⟩
  rw [q11, zoz hf hrd, hp, zaa]; exact zbe rfl
theorem z63 {n : Nat} {more : Bool} {bT : Nat} {a2 : zab} {t0 : Tr zak} (hn : n < 3000) (hG : zjy t0) (ha : RSl t0 1 (zif [1]) a2) (hb : C13.base <= bT) : ∀ (m k : Nat) (tf t : Tr zak) (rv : zab), k + m = n -> TLe t0 tf →
  zln C13.base tf t ([z3r bT none [.str [116], .bool false, rv]] ++ zgk C13.base 7 (List.replicate k znr.d) rv :: []) →
  jp 4 2 [.bool more, .int .i64 (n : Int), .int .i64 (k : Int), .bool false, a2, .str [120], .nilslice, .slice bT 0 1 1, .nilslice] t (fun v _ => v = .bool true) := by
 intro m; induction m with
 | zero =>
  intro k tf t rv hk h0 ho; have hkn : k = n := by omega
  subst hkn; refine j4_2 _ _ _ _ _ _ _ _ _ ?_
  unfold t4_2; refine zbv (nLt (by omega)) ?_
  have hc : Cel t bT none [.str [116], .bool false, rv] := ho.ok (z3r bT none [.str [116], .bool false, rv]) (by simp)
  obtain ⟨tf', k1, k2, k3⟩ := zln.freezeL ho
  have hr : RSl t 7 (List.replicate k znr.d) rv := k3.mono k2.tle
  have r0 : RSl t 3 [(zs3 k).d] (.slice bT 0 1 1) := by
   refine ⟨[[.str [116], .bool false, rv]], .inr ⟨bT, 0, 1, rfl, yal _, ?_, fun i cs hi => ?_⟩, zba.2 ⟨_, _, rfl, ?_, zcr.2 rfl⟩⟩
   ·obtain ⟨c, h, _⟩ := hc
    exact ⟨_, _, _, h, .inl rfl⟩
   ·cases i with
    | zero => simp at hi; subst hi; exact ⟨rfl, hc.at⟩
    | succ i => simp at hi
   ·unfold zfo.d
    rw [zi2]; refine ⟨[[.str [116]], [.bool false], [rv]], rfl, zba.2 ⟨_, _, rfl, zpj.2 rfl, zba.2 ⟨_, _, rfl, zke.2 rfl, zba.2 ⟨_, _, rfl, zl8.2 ⟨_, rfl, ?_⟩, zcr.2 rfl⟩⟩⟩⟩
    show RSl t 7 ((List.replicate k znr).map ztm.d) rv
    rw [List.map_replicate]; exact hr
  have hGt : zjy t := hG.mono (h0.trans ho.tle)
  cases more with
  | true =>
   refine zat rfl (zat rfl (zcw ?_))
   rw [wrap_i64 (n := 28 * (k : Int)) (by omega) (by omega), wrap_i64 (n := 19 + 28 * (k : Int)) (by omega) (by omega), wrap_i64 (by omega) (by omega), show (19 : Int) + 28 * (k : Int) + 1 = ((20 + 28 * k : Nat) : Int) by omega]
   exact z4m (name := [120, 121]) (by omega) (by simp) (by intro x hx; simp at hx; omega) (by kernel_rfl) (by simp) hGt r0
  | false =>
   refine zbv (by simp) (zcw ?_)
   rw [wrap_i64 (n := 28 * (k : Int)) (by omega) (by omega), wrap_i64 (by omega) (by omega), show (19 : Int) + 28 * (k : Int) = ((19 + 28 * k : Nat) : Int) by omega]
   exact z4m (name := [120]) (by omega) (by simp) (by intro x hx; simp at hx; omega) (by kernel_rfl) (by simp) hGt r0
 | succ m ih =>
  intro k tf t rv hk h0 ho; refine j4_2 _ _ _ _ _ _ _ _ _ ?_
  unfold t4_2; have hc : Cel t bT none [.str [116], .bool false, rv] := ho.ok (z3r bT none [.str [116], .bool false, rv]) (by simp)
  have hL : znp C13.base tf t 7 (List.replicate k znr.d) rv := ho.ok (zgk C13.base 7 (List.replicate k znr.d) rv) (by simp)
  have hrs := (hL.read ho.tle).same (d := 10)
  have hlow := ho.low bT (by simp [z3r])
  have i0 : zah C13 44 (.slice bT 0 1 1) (.int .i64 0) = some (.ptr bT 0) := by
   have := zdb (C := C13) sl44 (off := 0) (cap := 1) (b := bT) (show 0 < 1 by omega)
   simpa using this
  have f2 : za4 C13 53 2 (.ptr bT 0) = some (.ptr bT 2) := by kernel_rfl
  have sT : Am.same 10 (.slice bT 0 1 1) (.slice bT 0 1 1) = true := zt4
  refine zat (yLt (by omega)) (za8 i0 (za8 f2 (za9 (hc.load1 (j := 2) ty51 rfl rfl) (zat rfl (zat rfl (zb9 fun b1 hb1 _ => ?_))))))
  have hrow : RD tf znr.d [.int .i64 1, .int .i64 0, .int .i64 0, .bool false, a2, .bool false, a2] := by
   have h1 : RD tf (zd5.dd ⟨zv5, zv5⟩) [.bool false, a2, .bool false, a2] := by
    have hw : RD tf zv5.d [.bool false, a2] := by
     unfold zew.d; rw [zi2]; exact ⟨[[.bool false], [a2]], rfl, zba.2 ⟨_, _, rfl, zke.2 rfl, zba.2 ⟨_, _, rfl, zl8.2 ⟨_, rfl, ha.mono h0⟩, zcr.2 rfl⟩⟩⟩
    unfold zd5.dd; rw [zi2]; exact ⟨[[.bool false, a2], [.bool false, a2]], rfl, zba.2 ⟨_, _, rfl, hw, zba.2 ⟨_, _, rfl, hw, zcr.2 rfl⟩⟩⟩
   unfold ztm.d; rw [zi2]; exact ⟨[[.int .i64 1], [.int .i64 0], [.int .i64 0], [.bool false, a2, .bool false, a2]], rfl, zba.2 ⟨_, _, rfl, zkd.2 rfl, zba.2 ⟨_, _, rfl, zkd.2 rfl, zba.2 ⟨_, _, rfl, zkd.2 rfl, zba.2 ⟨_, _, rfl, h1, zcr.2 rfl⟩⟩⟩⟩⟩
  obtain ⟨t1, e1, e2, e3, e4⟩ := lit1 (C := C13) el51 (cs := [.int .i64 1, .int .i64 0, .int .i64 0, .bool false, a2, .bool false, a2]) rfl (by decide) hb1
  refine ⟨_, _, e1, ?_⟩
  have ho1 := ho.junk hb1 e4
  have hc1 : Cel t1 bT none [.str [116], .bool false, rv] := ho1.ok (z3r bT none [.str [116], .bool false, rv]) (by simp)
  refine zat sT (zat sT (za9 (hc1.load1 (j := 2) ty51 rfl rfl) (zat hrs (zb9 fun b2 hb2 hbase2 => ?_))))
  obtain ⟨v2, k2, t2, g1, g2⟩ := zln.pushL (C := C13) (A := [z3r bT none [.str [116], .bool false, rv]]) (B := []) el51 ho1 e2 hrow (RD.ones _ _ hrow) (by rw [List.length_replicate]; omega) hb2 hbase2
  refine ⟨_, _, g1, zat sT (za8 i0 (za8 f2 (zb9 fun b3 _ _ => ?_)))⟩
  have hc2 : Cel t2 bT none [.str [116], .bool false, rv] := g2.ok (z3r bT none [.str [116], .bool false, rv]) (by simp)
  have hL2 : znp C13.base tf t2 7 (List.replicate k znr.d ++ [znr.d]) v2 := g2.ok (zgk C13.base 7 (List.replicate k znr.d ++ [znr.d]) v2) (by simp)
  have hv2 : v2.cells = [v2] /\ zab.one v2 = true := by
   rcases hL2 with ⟨rfl, _⟩ | ⟨b, cl, c, rfl, _⟩ <;> exact ⟨rfl, rfl⟩
  obtain ⟨t3, d1, d2, d3⟩ := hc2.store1 (v := v2) hb ty51 rfl hv2.1 hv2.2 (j := 2) (by simp)
  refine ⟨_, _, d1 b3, zcw ?_⟩
  rw [wrap_i64 (by omega) (by omega), show (k : Int) + 1 = ((k + 1 : Nat) : Int) by omega]
  refine ih (k + 1) tf t3 v2 (by omega) h0 ?_
  rw [List.replicate_succ']; have hlow2 := g2.low bT (by simp [z3r])
  refine zln.upd (A := []) (o := z3r bT none [.str [116], .bool false, rv]) g2 (fun k k1 _ => d3 k (fun e => k1 (by simp [z3r, e]))) (fun k hk => .inl hk) d2 (by simp [z3r]) (g2.tle.off hlow2.2 d3)
theorem zzfr {rows : Nat} {more : Bool} (hr : rows < 256) (hG : zjy t) : Wc C13 F 4 [.int .u8 (rows : Int), .bool more] t (fun v t' => v = .bool true) := by
 have h6 : pvC C13 F 6 [] t = some (.bool true) := zv0 (g := zzej) (by kernel_rfl) fun H => rfl
 refine w4 _ _ ?_
 unfold t4; refine za6 ?_
 rw [q6, h6, zaa]; refine zbe (zbv (by simp) (zb9 fun b1 hb1 hbase1 => ?_))
 obtain ⟨H1, e1, e2, e3⟩ := zwb (k := .u16) ty22 rfl ty50 rfl rfl 1 trivial hb1
 refine ⟨_, _, e1, ?_⟩
 have ha : RSl H1.t 1 (zif [1]) (.slice b1 0 1 1) := e2.all (cap := 1) (yal _)
 refine zat rfl (zat rfl (zat rfl (zb9 fun bT hbT hbaseT => ?_)))
 obtain ⟨t2, g1, g2, g3, g4⟩ := zziq hbT
 refine ⟨_, _, g1, zat rfl (zat rfl (zcw ?_))⟩
 have hmod : zag .i64 (2300 + Int.tmod (zag .i64 (rows : Int)) 101) = ((2300 + rows % 101 : Nat) : Int) := by
  rw [wrap_i64 (n := (rows : Int)) (by omega) (by omega)]
  have : Int.tmod (rows : Int) 101 = ((rows % 101 : Nat) : Int) := by
   rw [Int.tmod_eq_emod_of_nonneg (by omega)]; omega
  rw [this, wrap_i64 (by omega) (by omega)]
  omega
 rw [hmod]; have hO : zln C13.base H1.t t2 ([z3r bT none [.str [116], .bool false, .nilslice]] ++ zgk C13.base 7 (List.replicate 0 znr.d) .nilslice :: []) := by
  refine ⟨g3, by simp [z3r, zgk, zzh7], fun o ho => ?_, fun k hk => ?_⟩
  ·simp only [List.cons_append, List.nil_append, yat, List.not_mem_nil, or_false] at ho
   rcases ho with rfl | rfl
   ·exact g2
   ·exact .inl ⟨rfl, rfl⟩
  ·have : k = bT := by simpa [z3r, zgk, zzh7] using hk
   subst this; exact ⟨hbaseT, hbT⟩
 exact z63 (by omega) (hG.mono e3) ha hbaseT (2300 + rows % 101) 0 H1.t t2 .nilslice (by omega) (TLe.refl _) hO
end Go.Proofs
namespace Go.Am
open Go Go.RowKit
def z08 {α : Type} (f : Nat -> Option α) : Nat -> Tr α
 | 0 => .leaf
 | n + 1 => match f n with
  | some v => (z08 f n).set n v
  | none => z08 f n
theorem zix {α : Type} (f : Nat -> Option α) : ∀ (n a : Nat), (z08 f n).get a = if a < n then f a else none := by
 intro n; induction n with
 | zero => intro a; rw [if_neg (by omega)]; exact Tr.get_leaf _
 | succ n ih =>
  intro a; unfold z08
  cases hf : f n with
  | some v =>
   simp only []; rw [Tr.get_set, ih]; by_cases h : a = n
   ·subst h; rw [if_pos rfl, if_pos (by omega), hf]
   ·rw [if_neg h]
    by_cases h2 : a < n
    ·rw [if_pos h2, if_pos (by omega)]
    ·rw [if_neg h2, if_neg (by omega)]
  | none =>
   simp only []; rw [ih]; by_cases h : a = n
   ·subst h; rw [if_neg (by omega), if_pos (by omega), hf]
   ·by_cases h2 : a < n
    ·rw [if_pos h2, if_pos (by omega)]
    ·rw [if_neg h2, if_neg (by omega)]
def absV (N : Nat) : Value -> Option zab
 | .bool b => some (.bool b)
 | .int k n => some (.int k n)
 | .string s => some (.str (zb0 s))
 | .slice none 0 0 => some .nilslice
 | .slice (some _) 0 0 => some (.slice 0 0 0 0)
 | .slice (some ⟨b, off, none⟩) len cap => if b < N then some (.slice (256 + b) off len cap) else none
 | _ => none
def absB (N : Nat) : Obj -> Option zak
 | .cells cs _ _ => some (.cells (z08 (fun j => (cs[j]?).bind (absV N)) cs.size) cs.size none)
 | _ => none
def z7d (w : World) : Tr zak := z08 (fun a => if a < 256 then (w.heap[a]?).bind (absB w.heap.size) else (w.heap[a - 256]?).bind (absB w.heap.size)) (256 + w.heap.size)
def muW (w : World) : Mu := ⟨fun a => if a < 256 then some ⟨a, true, 0, 0, true⟩ else if a < 256 + w.heap.size then some ⟨a - 256, true, 0, 0, true⟩ else none, fun _ => none⟩
section
variable {w : World}
theorem zzgl {v : Value} {a : zab} (h : absV w.heap.size v = some a) : zan (muW w) a v := by
 unfold absV at h; split at h
 ·cases h; rw [zan]
 ·cases h; rw [zan]
 ·cases h; rw [zan]; exact ⟨_, rfl, rfl⟩
 ·cases h; rw [zan]
 ·cases h; rw [zan]; exact .inr ⟨rfl, rfl, rfl, _, _, rfl, .inl ⟨rfl, rfl⟩⟩
 ·split at h
  ·rename_i hb
   cases h; rename_i b off len cap _; rw [zan]; refine .inl ⟨⟨b, true, 0, 0, true⟩, cap, ?_, rfl, yal _, fun _ => rfl, fun h => by cases h⟩
   show (if 256 + b < 256 then some (⟨256 + b, true, 0, 0, true⟩ : BI) else if 256 + b < 256 + w.heap.size then some ⟨256 + b - 256, true, 0, 0, true⟩ else none) = _
   rw [if_neg (by omega), if_pos (by omega), show 256 + b - 256 = b by omega]
  ·cases h
 ·cases h
theorem z4w {o : Obj} {x : zak} (h : absB w.heap.size o = some x) (b : Nat) : znt (muW w) ⟨b, true, 0, 0, true⟩ x o /\ x.asLoop = none /\ x.asDeferred = none := by
 cases o <;> first | (cases h; done) | skip
 rename_i cs elem fr
 cases h; refine ⟨⟨cs, elem, fr, rfl, yal _, .inl rfl, fun j v hv => ?_, rfl⟩, rfl, rfl⟩
 rw [zix] at hv; split at hv
 case isFalse => cases hv
 rename_i hj
 cases hc : cs[j]? with
 | none => rw [hc] at hv; cases hv
 | some u =>
  rw [hc] at hv; exact ⟨hj, u, rfl, zzgl hv⟩
theorem hrelW : zbf (256 + w.heap.size) w.heap.size (muW w) ⟨256 + w.heap.size, z7d w⟩ w := by
 have hget : ∀ a x, (z7d w).get a = some x -> ∃ b o, b < w.heap.size /\ w.heap[b]? = some o /\ absB w.heap.size o = some x /\ a < 256 + w.heap.size /\ b = (if a < 256 then a else a - 256) := by
  intro a x hx; unfold z7d at hx; rw [zix] at hx; split at hx
  case isFalse => cases hx
  rename_i hlt; split at hx
  ·rename_i h
   cases ho : w.heap[a]? with
   | none => rw [ho] at hx; cases hx
   | some o => rw [ho] at hx; exact ⟨a, o, (yaf.1 ho).1, ho, hx, hlt, by rw [if_pos h]⟩
  ·rename_i h
   cases ho : w.heap[a - 256]? with
   | none => rw [ho] at hx; cases hx
   | some o => rw [ho] at hx; exact ⟨a - 256, o, (yaf.1 ho).1, ho, hx, hlt, by rw [if_neg h]⟩
 have hmu : ∀ a, (muW w) a = if a < 256 then some ⟨a, true, 0, 0, true⟩ else if a < 256 + w.heap.size then some ⟨a - 256, true, 0, 0, true⟩ else none := fun _ => rfl
 have big : ∀ a, 256 + w.heap.size <= a -> (muW w) a = none := fun a h => by rw [hmu, if_neg (by omega), if_neg (by omega)]
 have same : ∀ a x i, (z7d w).get a = some x -> (muW w) a = some i -> ∃ o, w.heap[i.b]? = some o /\ i.b < w.heap.size /\ absB w.heap.size o = some x /\ i = ⟨i.b, true, 0, 0, true⟩ := by
  intro a x i hx hi; obtain ⟨b, o, h1, h2, h3, h4, h5⟩ := hget a x hx
  rw [hmu] at hi; split at hi
  ·rename_i h
   cases hi; rw [if_pos h] at h5; subst h5; exact ⟨o, h2, h1, h3, rfl⟩
  ·rename_i h
   rw [if_neg h] at h5; have hi := ybj hi
   have hb : i.b = b := by rw [<- hi, h5]
   refine ⟨o, by rw [hb]; exact h2, by rw [hb]; exact h1, h3, by rw [<- hi]⟩
 refine ⟨by omega, fun g hg => by rw [hmu, if_pos hg], fun a x i _ hx hi => ?_, yal _, yal _, fun a ha => ⟨big a ha, ?_⟩, fun a x i hx hi => ?_, fun a i ha hi => ?_, fun a b x y i j hx _ hi _ ha _ _ => ?_, fun a x t h => by cases h⟩
 ·obtain ⟨o, _, h2, h3, _⟩ := same a x i hx hi
  exact ⟨h2, (z4w h3 0).2⟩
 ·show (z7d w).get a = none
  unfold z7d; have ha : 256 + w.heap.size <= a := ha
  rw [zix, if_neg (by omega)]
 ·obtain ⟨o, h1, _, h3, h4⟩ := same a x i hx hi
  exact ⟨o, h1, by rw [h4]; exact (z4w h3 _).1⟩
 ·rw [big a ha] at hi; cases hi
 ·rw [big a ha] at hi; cases hi
end
end Go.Am
namespace Go.Am
open Go Go.RowKit
def tiles (P : Program) : Nat -> List Field -> Nat -> Bool
 | off, [], n => off == n
 | off, f :: fs, n => f.offset == off && tiles P (off + P.cellsOf f.type) fs n
structure Plain (P : Program) (S : TypeId -> Prop) : Prop where
 part : ∀ t, S t -> match P.underlying t with
  | some .bool => True
  | some (.int _) => True
  | some .string => True
  | some (.slice e) => S e /\ 0 < P.cellsOf e
  | some (.struct fs) => (∀ f ∈ fs.toList, S f.type) /\ tiles P 0 fs.toList (P.cellsOf t) = true
  | _ => False
section
variable {H : Type} {enc : TypeId × Value -> H} {P : Program} {w : World}
end
end Go.Am
namespace Go.Am
open Go Go.RowKit
structure zzde (P : Program) where
 (b i u8 u16 s limbs whole frac val expr exprs row rows table tables dfn dfns clause clauses plan : TypeId)
 hb : P.underlying b = some .bool
 hi : P.underlying i = some (.int .i64)
 hu8 : P.underlying u8 = some (.int .u8)
 hu16 : P.underlying u16 = some (.int .u16)
 hs : P.underlying s = some .string
 hlimbs : P.underlying limbs = some (.slice u16)
 hexprs : P.underlying exprs = some (.slice expr)
 hrows : P.underlying rows = some (.slice row)
 htables : P.underlying tables = some (.slice table)
 hdfns : P.underlying dfns = some (.slice dfn)
 hclauses : P.underlying clauses = some (.slice clause)
 hwhole : ∃ fs, P.underlying whole = some (.struct fs) /\ fs.toList.map (·.type) = [b, limbs]
 hfrac : ∃ fs, P.underlying frac = some (.struct fs) /\ fs.toList.map (·.type) = [whole, whole]
 hval : ∃ fs, P.underlying val = some (.struct fs) /\ fs.toList.map (·.type) = [u8, frac, i]
 hexpr : ∃ fs, P.underlying expr = some (.struct fs) /\ fs.toList.map (·.type) = [u8, s, val, exprs]
 hrow : ∃ fs, P.underlying row = some (.struct fs) /\ fs.toList.map (·.type) = [i, i, i, frac]
 htable : ∃ fs, P.underlying table = some (.struct fs) /\ fs.toList.map (·.type) = [s, b, rows]
 hdfn : ∃ fs, P.underlying dfn = some (.struct fs) /\ fs.toList.map (·.type) = [s, u8, b]
 hclause : ∃ fs, P.underlying clause = some (.struct fs) /\ fs.toList.map (·.type) = [s, s, i, i, i, b, expr, expr]
 hplan : ∃ fs, P.underlying plan = some (.struct fs) /\ fs.toList.map (·.type) = [s, dfns, tables, clauses]
 cu16 : P.cellsOf u16 = 1
 cexpr : P.cellsOf expr = 9
 crow : P.cellsOf row = 7
 ctable : P.cellsOf table = 3
 cdfn : P.cellsOf dfn = 3
 cclause : P.cellsOf clause = 24
 bytes : 1 <= P.bytesOf u16 /\ 1 <= P.bytesOf expr /\ 1 <= P.bytesOf row /\ 1 <= P.bytesOf table /\ 1 <= P.bytesOf dfn /\ 1 <= P.bytesOf clause
section
variable {P : Program} {f : Nat} {t : TypeId} {x : D}
end
namespace zzde
section
variable {P : Program} (A : zzde P) {f : Nat} {x : D}
end
end zzde
end Go.Am
namespace Go.Am
open Go Go.RowKit Go.Proofs
theorem z5p [zcb] (B N : Nat) (hb : B <= 256 + zcb.n) : zoq Tryz.prog C13 B N zcs := by
 intro f g hg args H v H' hv μ w args' hH hI hl; have hg : z9s.get f = some g := hg
 unfold z9s at hg; rcases zef hg with ⟨rfl, rfl⟩ | hg
 ·exact zfc hv hH fun hv => zml hI hv hl
 rcases zef hg with ⟨rfl, rfl⟩ | hg
 ·exact .inr (zrc hb hH hv hl)
 rcases zef hg with ⟨rfl, rfl⟩ | hg
 ·exact .inr (zuf hb hH hv hl)
 rcases zef hg with ⟨rfl, rfl⟩ | hg
 ·exact zfc hv hH fun hv => zx6 hI hv hl
 rcases zef hg with ⟨rfl, rfl⟩ | hg
 ·exact zfc hv hH fun hv => zx7 hI hv hl
 rcases zef hg with ⟨rfl, rfl⟩ | hg
 ·exact zfc hv hH fun hv => z5r hI hv hl
 ·rw [Tr.get_leaf] at hg; cases hg
theorem sim13 [zcb] (hN : 6 <= zcb.n) : Sim Tryz.prog C13 (256 + zcb.n) zcb.n zcs :=
 ⟨z78 rfl, z4e rfl, z5p _ _ (yal _), yal _, by kernel_rfl, fun _ _ hb h => h.below hN hb⟩
section
variable {w : World}
theorem zzjg {b : Nat} {y : zak} (h : (z7d w).get b = some y) : b < 256 + w.heap.size := by
 unfold z7d at h; rw [zix] at h; split at h
 ·assumption
 ·cases h
theorem z5c (hL : zcs w) (f : Nat) (args : List zab) (args' : Array Value) (hp : ∀ [zcb], C13.prims.get f = none) (hl : zbk (muW w) args args'.toList)
  (h : ∀ [zcb], ∃ Q : zao, Wc C13 F f args (z7d w) Q /\ ∀ v t, Q v t -> v = .bool true) (hf : Nat.blt f yo = true := by rfl) :
  Calls Tryz.prog f args' w fun e w' => e = .returned (.bool true) /\ Below w.heap.size w w' := by
 letI : zcb := ⟨w.heap.size⟩
 obtain ⟨Q, h1, h2⟩ := h
 refine (z19 (H := ⟨256 + w.heap.size, z7d w⟩) (sim13 hL.size) hL zzkn hp (yal _) (fun b y hb => zzjg hb) hrelW hl h1 hf).mono fun e w' ⟨v, v', t', μ', g1, g2, g3, g4, g5⟩ => ?_
 have := h2 v t' g4
 subst this; rw [zan] at g3; exact ⟨by rw [g1, g3], g5⟩
theorem zzj6 (h : zcs w) : ∀ [zcb], zjy (z7d w) := by
 intro _; obtain ⟨t, h⟩ := h.lens
 have hb := (yaf.1 h).1
 have e : (z7d w).get 2 = some (.cells (z08 (fun j => ((zzfe z1i).toArray[j]?).bind (absV w.heap.size)) (zzfe z1i).toArray.size) (zzfe z1i).toArray.size none) := by
  unfold z7d; rw [zix, if_pos (by omega), if_pos (by omega), h]
  rfl
 refine ⟨_, _, _, e, fun j a ha => ?_⟩
 rw [zix, yax]; have hj : j < zo1.length := by
  have := (yad.1 ha).1
  simpa using this
 rw [yav] at ha; have hL : zo1 = z1i := rfl
 rw [hL] at ha hj
 cases hbt : z1i[j]? with
 | none => rw [hbt] at ha; cases ha
 | some b =>
  rw [hbt] at ha; obtain rfl := ybj ha
  rw [if_pos (by simp [zzfe]; exact hj)]
  simp only [zzfe, List.getElem?_toArray, yav, hbt, Option.map_some, Option.bind_some, absV]
theorem long4 (hL : zcs w) {n : Nat} {b : Bool} (h : n < 256) :
  Calls Tryz.prog 4 #[.int .u8 (n : Int), .bool b] w fun e w' => e = .returned (.bool true) /\ Below w.heap.size w w' :=
 z5c hL 4 [.int .u8 (n : Int), .bool b] _ (by intro _; kernel_rfl) (by
  rw [zbk]; refine ⟨_, _, rfl, by rw [zan], ?_⟩
  rw [zbk]; refine ⟨_, _, rfl, by rw [zan], ?_⟩
  rw [zbk]) ⟨_, zzfr h (zzj6 hL), fun v t h => h⟩
end
end Go.Am
namespace Go.Am
open Go Go.RowKit Go.ChangeShapes Go.WideShapes Go.ChangeAt
section
variable {H : Type} {enc : TypeId × Value -> H} {P : Program}
theorem zmd (hl : laidOutB P = true) {W W' : World} (hb : Below W.heap.size W W') : ∀ {ts : List TypeId} {vs : List Value} {ds : List (DataW H)} {ps : List MemPlace}, (∀ t ∈ ts, P.readableRec t = true /\ t < P.types.size) →
  DataW.TrodAll enc P W 0 (fun _ => true) true ts vs ds ps -> (∀ x ∈ ps, x.block < W.heap.size) -> DataW.TrodAll enc P W' 0 (fun b => decide (b < W.heap.size)) true ts vs ds ps
 | [], [], [], _, _, h, _ => h
 | t :: ts, _ :: _, _ :: _, _, ht, ⟨p, q, h1, h2, e⟩, hs => by
  subst e; exact ⟨p, q, Below.trod hl (ht t (by simp)).1 (ht t (by simp)).2 h1 hb fun x hx => hs x (ycd _ hx),
   zmd hl hb (fun t ht' => ht t (yas _ ht')) h2 fun x hx => hs x (ybg _ hx), rfl⟩
 | [], _ :: _, _, _, _, h, _ => by simp [DataW.TrodAll] at h
 | [], [], _ :: _, _, _, h, _ => by simp [DataW.TrodAll] at h
 | _ :: _, [], _, _, _, h, _ => by simp [DataW.TrodAll] at h
 | _ :: _, _ :: _, [], _, _, h, _ => by simp [DataW.TrodAll] at h
theorem law_post (hl : laidOutB P = true) {f : Func} {s : ChangeSpec} {tb : TypeId} (hp : ∀ t ∈ f.params.toList, P.readableRec t = true /\ t < P.types.size) (hv : s.vars = []) (hres : f.resultTypes = #[tb]) (htb : P.underlying tb = some .bool)
  {W W' : World} {args : Array Value} {ds gs : List (DataW H)} {before : List MemPlace} (hfn : s.fn H ds = { results := [.lit (.bool true)], args := ds })
  (hW : DataW.Whole enc P f.params.toList s.vars false W args.toList ds gs before) (hb : Below W.heap.size W W') :
  s.post enc P f false true false false W args (.bool true) W' := by
 have hW0 := hW
 obtain ⟨p, q, hA, hV, rfl, hfz, hnd⟩ := hW
 rw [hv] at hV; obtain ⟨rfl, rfl⟩ := trodVars_none hV
 refine ⟨ds, [], p ++ [], [], p, [], hW0, ?_, ?_, ?_, hb.frame _, fun h => by cases h⟩
 ·rw [ybe, hfn, hres]
  exact trodAll_mk1 (shut_bool htb _)
 ·rw [ybe, hfn]
  exact zmd hl hb hp hA fun x hx => hW0.lt x (by simpa using hx)
 ·rw [ybe, hfn, hv]
  exact rfl
theorem z3b {a : Assume} {C : Checked} {os : Os} {f : FuncId} {fn : Func} {s : ChangeSpec} {conds : List PathCond} {apart fresh handsOn again : Bool} {X : World -> Array Value -> Prop}
  (hX : ∀ (w w' : World) (args : Array Value), w.heap = w'.heap -> X w args -> X w' args)
  (own : ownKnob C.prog.godebug = none) (started : os.Started) (noInit : C.prog.inits.idxOf? f = none) (hfn : C.prog.funcs[f]? = some fn)
  (witness : ∃ (w : World) (tape : Tape) (i : Input), w.os = os /\ (w.forCall tape i).Shaped C.prog /\ i.vars = [] /\ Input.okWide C.prog (w.forCall tape i) .any w.heap.size f i ∧
   ((s.pre enc C.prog fn conds apart (w.forCall tape i).memory i.args /\ X (w.forCall tape i).memory i.args) /\ sizedMet enc C.prog fn (OpenSpec.ofChange s) apart (w.forCall tape i).memory i.args) /\ a.holds C.prog (lone (Frame.enter C.prog f i.args .normal) [] (w.forCall tape i)))
  (contract : ∀ (W : World) (base : Nat) (args : Array Value) (ds gs : List (DataW H)) (before : List MemPlace),
   (∀ (j : Nat) t v, fn.params[j]? = some t -> args[j]? = some v -> Value.okWide C.prog W .any base t v) →
   DataW.Whole enc C.prog fn.params.toList s.vars apart W args.toList ds gs before →
   (DataW.weightsEach C.prog (fn.params.toList ++ s.plain.varTypes C.prog) (ds ++ gs)).all (· <= reachBytes) = true -> X W args -> W.ShapedOpen C.prog →
   Calls C.prog f args W fun e W' => ∃ v, e = .returned v /\ s.post enc C.prog fn apart fresh handsOn again W args v W') :
  ReturnsInHanded a C os f .any (fun w args => (s.pre enc C.prog fn conds apart w args /\ X w args) /\ sizedMet enc C.prog fn (OpenSpec.ofChange s) apart w args) (s.post enc C.prog fn apart fresh handsOn again) := by
 refine returnsInHanded_of_calls own started noInit witness ?_
 intro w tape i _ hsh _ hok hpre _; obtain ⟨_, _, _, fn', hfn', _, _, _, _, hval⟩ := hok
 have e : fn' = fn := ybj (hfn'.symm.trans hfn)
 subst e; obtain ⟨⟨⟨ds, gs, before, hw, hc⟩, hx⟩, hz⟩ := hpre
 have hw' := DataW.Whole.of_heap (w' := w.forCall tape i) (by rfl) hw
 refine (contract (w.forCall tape i) w.heap.size i.args ds gs before hval hw' (hz.weights hw) (hX _ _ _ (by rfl) hx) hsh).mono fun e W' ⟨v, he, hp⟩ => ?_
 subst he; exact ChangeSpec.post_blind hp
variable {w : World} {base : Nat} {spare : Nat -> Bool} {held : Bool} {fuel : Nat} {t e : TypeId} {cs : List Value} {ps : List MemPlace}
theorem zni {α : Type} {g : α -> DataW H} {u : α -> Value} {l : List α} {n : Nat} (ht : P.underlying t = some (.array n e)) (hc : P.cellsOf e = 1) (hn : P.cellsOf t = n)
  (h1 : ∀ (m : Nat) (c : List Value) (x : DataW H × List MemPlace) (a : α), DataW.trod enc P w base spare held m e c = some x -> x.1 = g a -> c = [u a])
  (h : DataW.trod enc P w base spare held fuel t cs = some (.agg (l.map g), ps)) : cs = l.map u := by
 obtain ⟨xs, m, _, hx, hlen, hxs, hel⟩ := DataW.trod_array ht h
 simp only [Prod.mk.injEq, DataW.agg.injEq] at hx; have hl : l.length = n := by have := congrArg List.length hx.1; simp [hxs] at this; exact this
 rw [hn] at hlen; refine List.ext_getElem (by rw [hlen, yag, hl]) fun i hi1 hi2 => ?_
 have hi : i < n := by omega
 have := hel i hi
 rw [hc] at this; have hc1 : ((cs.drop (i * 1)).take 1) = [cs[i]] := by
  rw [Nat.mul_one, yam hi1]; rfl
 rw [hc1, yae (by omega)] at this
 have hxi : xs[i].1 = g (l[i]'(by omega)) := by
  have := congrArg (fun z => z[i]?) hx.1
  simp only [yav] at this; rw [yae (by omega), yae (by omega)] at this
  simpa using this.symm
 have := h1 m _ _ _ this hxi
 rw [List.getElem_map]; simpa using this
theorem z26 (he : P.underlying e = some .string) (m : Nat) (c : List Value) (x : DataW H × List MemPlace) (b : List UInt8) (h : DataW.trod enc P w base spare held m e c = some x) (hx : x.1 = .lit (.string b)) : c = [.string ⟨b.toArray⟩] := by
 obtain ⟨s, rfl, rfl, _⟩ := DataW.trod_string he h
 simp at hx; rw [<- hx]
theorem zzff (he : P.underlying e = some (.int .i64)) (m : Nat) (c : List Value) (x : DataW H × List MemPlace) (n : Int) (h : DataW.trod enc P w base spare held m e c = some x) (hx : x.1 = .lit (.int .i64 n)) : c = [.int .i64 n] := by
 obtain ⟨k, rfl, rfl, _⟩ := DataW.trod_int he h
 simp at hx; rw [hx]
end
theorem joined_of {P : Program} {f : FuncId} {fn : Func} {s : ChangeSpec} {c : OpenClaim}
  (A : (c.wf (OpenSpec.ofChange s) && laidOutB P && mapsRowed P && fn.params.all (P.readableRec ·) && namedTie P c.named s.vars && (c.stops == []) && (P.stops == []) && (c.knobs == []) && (P.stopKnobs == [])) = true)
  (h1 : (c.inPlace == P.inPlace f) = true) (h2 : (c.unfollowed == P.unfollowed f) = true) (h3 : (c.recurses == P.recurses f) = true) (h4 : (c.named == P.varsNamed f) = true)
  (E : ((c.maps == (fn.params.toList ++ s.plain.varTypes P).any (P.mapsRec ·)) && (c.ifaces == (fn.params.toList ++ s.plain.varTypes P).any (P.ifacesRec ·)) && (c.mapsOut == P.mapsAmong fn.resultTypes.toList) &&
   (c.loops == (fn.params.toList ++ s.plain.varTypes P).any (P.loopsFrom ·)) && (c.wideKeys == (fn.params.toList ++ s.plain.varTypes P ++ fn.resultTypes.toList).any (P.wideKeysFrom ·)) &&
   s.vars.all (P.varReadable ·) && fn.resultTypes.all (fun t => P.readableRec t && decide (t < P.types.size)) && (c.ifacesOut == fn.resultTypes.toList.any (P.ifacesRec ·)) && (c.loopsOut == fn.resultTypes.toList.any (P.loopsFrom ·)) && c.shortTexts.isNone) = true)
  (h5 : (c.plainKeys == P.plainKeys) = true) (h6 : P.stopsHeard = true) (h7 : P.mayEnter = true) (h8 : (c.lifted == P.liftsFinal) = true)
  (R : ((P.make == some c.make) && (c.kinds == (if c.domain.isEmpty then [] else fn.params.toList.map fun t => match P.underlying t with | some (.int k) => some k | _ => none)) && (c.pinned == c.pinnedBy) &&
   (c.veiled == (fn.params.toList ++ s.plain.varTypes P ++ fn.resultTypes.toList).any (P.veiledRec ·)) && c.veiledFits P fn.params.toList (fn.params.toList ++ s.plain.varTypes P ++ fn.resultTypes.toList)) = true) :
  joinedFacts P f fn s c = true := by
 unfold joinedFacts; simp only [yac] at A E R ⊢
 obtain ⟨⟨⟨⟨⟨⟨⟨⟨a1, a2⟩, a3⟩, a4⟩, a5⟩, a6⟩, a7⟩, a8⟩, a9⟩ := A
 obtain ⟨⟨⟨⟨⟨⟨⟨⟨⟨e1, e2⟩, e3⟩, e4⟩, e5⟩, e6⟩, e7⟩, e8⟩, e9⟩, e10⟩ := E
 obtain ⟨⟨⟨⟨r1, r2⟩, r3⟩, r4⟩, r5⟩ := R
 exact ⟨⟨⟨⟨⟨⟨⟨⟨⟨⟨⟨⟨⟨⟨⟨⟨⟨⟨⟨⟨⟨⟨⟨⟨⟨⟨⟨⟨⟨⟨⟨a1, a2⟩, a3⟩, a4⟩, a5⟩, a6⟩, a7⟩, a8⟩, a9⟩, h1⟩, h2⟩, h3⟩, h4⟩, e1⟩, e2⟩, e3⟩, e4⟩, e5⟩, e6⟩, e7⟩, e8⟩, e9⟩, h5⟩, e10⟩, h6⟩, h7⟩, h8⟩, r1⟩, r2⟩, r3⟩, r4⟩, r5⟩
theorem u8_bounds {n : Int} (h : (Lit.int .u8 n).wf = true) : 0 <= n /\ n < 256 := by
 simp only [Lit.wf, yac, decide_eq_true_eq] at h; have h1 : IntKind.u8.min = 0 := rfl
 have h2 : IntKind.u8.max = 255 := rfl
 rw [h1, h2] at h; omega
end Go.Am
namespace Go.Proofs.YtbgilkcahebbfaaGreatDoor
open Go Go.Am Go.RowKit Go.ChangeShapes Go.WideShapes Go.ChangeAt
theorem own : ownKnob Tryz.prog.godebug = none := by kernel_rfl
theorem laidOut : laidOutB Tryz.prog = true := by kernel_rfl
theorem gPow : Tryz.prog.globalNamed "internal/strconv.uint64pow10" = some 5 := by kernel_rfl
theorem gLens : Tryz.prog.globalNamed "annuitant/calendar.lengths" = some 2 := by kernel_rfl
theorem gKinds : Tryz.prog.globalNamed "annuitant/parse.kindWords" = some 0 := by kernel_rfl
theorem gModes : Tryz.prog.globalNamed "annuitant/parse.modeWords" = some 1 := by kernel_rfl
theorem tPow : (Tryz.prog.globals[5]?).map (·.type) = some 233 := by kernel_rfl
theorem tLens : (Tryz.prog.globals[2]?).map (·.type) = some 220 := by kernel_rfl
theorem tKinds : (Tryz.prog.globals[0]?).map (·.type) = some 153 := by kernel_rfl
theorem tModes : (Tryz.prog.globals[1]?).map (·.type) = some 153 := by kernel_rfl
def laid6 : List (String × DataW Unit) := [("math/bits.deBruijn32tab", Rows.laid_math_bits_deBruijn32tab), ("math/bits.deBruijn64tab", Rows.laid_math_bits_deBruijn64tab), ("internal/strconv.uint64pow10", Rows.laid_internal_strconv_uint64pow10), ("annuitant/calendar.lengths", Rows.laid_annuitant_calendar_lengths), ("annuitant/parse.kindWords", Rows.laid_annuitant_parse_kindWords), ("annuitant/parse.modeWords", Rows.laid_annuitant_parse_modeWords)]
theorem door_met (os : Os) (args : Array Value) : laidMetH Tryz.prog laid6 ((World.doorLaid Tryz.prog 100 os).forCall (fun _ _ => 0) ⟨#[], args, []⟩).memory :=
 laidMetH_of_parts3 (fuel := 8) (laidMet_of_run' 8 (by kernel_rfl) (by kernel_rfl)) (by kernel_rfl) (by kernel_rfl)
theorem zma {W : World} {n : String} {g : Nat} {cs : Array Value} (hg : Tryz.prog.globalNamed n = some g) (hv : W.var? Tryz.prog n = some cs) (hc : ∃ c t, W.heap[g]? = some (.cells c t (0, 0))) : ∃ t, W.heap[g]? = some (.cells cs t (0, 0)) := by
 obtain ⟨c, t, hc⟩ := hc
 unfold World.var? at hv
 rw [hg] at hv; simp only [Option.bind_some, hc, Option.some.injEq] at hv; subst hv; exact ⟨t, hc⟩
theorem zvu {g n : Nat} {p q : List MemPlace} (h : 0 < n) : MemPlace.cell g 0 ∈ MemPlace.row ⟨g, 0, none⟩ n ++ p ++ q :=
 ycd _ (ycd _ (List.mem_map.2 ⟨0, List.mem_range.2 h, rfl⟩))
theorem zzjn : Rows.laid_internal_strconv_uint64pow10 (H := Unit) = .agg (zzdi.map fun n => .lit (.int .u64 n)) := by kernel_rfl
theorem zze5 : Rows.laid_annuitant_calendar_lengths (H := Unit) = .agg (z1i.map fun n => .lit (.int .i64 n)) := by kernel_rfl
theorem zzaq : Rows.laid_annuitant_parse_kindWords (H := Unit) = .agg (zti.map fun b => .lit (.string b)) := by kernel_rfl
theorem zzap : Rows.laid_annuitant_parse_modeWords (H := Unit) = .agg (ztg.map fun b => .lit (.string b)) := by kernel_rfl
theorem zzdo {H : Type} {enc : TypeId × Value -> H} {P : Program} {w : World} {base : Nat} {spare : Nat -> Bool} {held : Bool} {e : TypeId} (he : P.underlying e = some (.int .u64)) (m : Nat) (c : List Value) (x : DataW H × List MemPlace) (n : Int) (h : DataW.trod enc P w base spare held m e c = some x) (hx : x.1 = .lit (.int .u64 n)) : c = [.int .u64 n] := by
 obtain ⟨k, rfl, rfl, _⟩ := DataW.trod_int he h
 simp at hx; rw [hx]
theorem laid_of {W : World} (h : laidMetH Tryz.prog laid6 W) (hsh : W.ShapedOpen Tryz.prog) : zcs W := by
 rw [MakeChecks.laidMetH_plain _ _ _ (by kernel_rfl)] at h
 obtain ⟨ps, ⟨_, _, _, _, _, _, _, _, _, _, ⟨_, _, _, _, _, _, _, _, _, _, ⟨g0, t0, cs0, f0, p0, q0, hg0, ht0, hv0, hd0, ⟨g1, t1, cs1, f1, p1, q1, hg1, ht1, hv1, hd1, ⟨g2, t2, cs2, f2, p2, q2, hg2, ht2, hv2, hd2, ⟨g3, t3, cs3, f3, p3, q3, hg3, ht3, hv3, hd3, _, hp3⟩, hp2⟩, hp1⟩, hp0⟩, hpb⟩, hpa⟩, _, hcell⟩ := h
 obtain rfl := ybj (gPow.symm.trans hg0)
 obtain rfl := ybj (gLens.symm.trans hg1)
 obtain rfl := ybj (gKinds.symm.trans hg2)
 obtain rfl := ybj (gModes.symm.trans hg3)
 obtain rfl := ybj (tPow.symm.trans ht0)
 obtain rfl := ybj (tLens.symm.trans ht1)
 obtain rfl := ybj (tKinds.symm.trans ht2)
 obtain rfl := ybj (tModes.symm.trans ht3)
 have c3 : Tryz.prog.cellsOf 3 = 1 := by kernel_rfl
 have c9 : Tryz.prog.cellsOf 9 = 1 := by kernel_rfl
 have c195 : Tryz.prog.cellsOf 195 = 1 := by kernel_rfl
 have c233 : Tryz.prog.cellsOf 233 = 20 := by kernel_rfl
 have c220 : Tryz.prog.cellsOf 220 = 12 := by kernel_rfl
 have c153 : Tryz.prog.cellsOf 153 = 7 := by kernel_rfl
 rw [zzjn] at hd0; rw [zze5] at hd1; rw [zzaq] at hd2; rw [zzap] at hd3; have e0 : cs0.toList = u64s zzdi := zni (l := zzdi) (g := fun n => .lit (.int .u64 n)) (u := fun n => .int .u64 n) Tryz.underlying233 c195 c233 (fun m c x a => zzdo Tryz.underlying195 m c x a) hd0
 have e1 : cs1.toList = zzfe z1i := zni (l := z1i) (g := fun n => .lit (.int .i64 n)) (u := fun n => .int .i64 n) Tryz.underlying220 c3 c220 (fun m c x a => zzff Tryz.underlying3 m c x a) hd1
 have e2 : cs2.toList = zziy zti := zni (l := zti) (g := fun b => .lit (.string b)) (u := fun b => .string ⟨b.toArray⟩) Tryz.underlying153 c9 c153 (fun m c x a => z26 Tryz.underlying9 m c x a) hd2
 have e3 : cs3.toList = zziy ztg := zni (l := ztg) (g := fun b => .lit (.string b)) (u := fun b => .string ⟨b.toArray⟩) Tryz.underlying153 c9 c153 (fun m c x a => z26 Tryz.underlying9 m c x a) hd3
 have s0 : cs0 = (u64s zzdi).toArray := by rw [<- e0]
 have s1 : cs1 = (zzfe z1i).toArray := by rw [<- e1]
 have s2 : cs2 = (zziy zti).toArray := by rw [<- e2]
 have s3 : cs3 = (zziy ztg).toArray := by rw [<- e3]
 subst s0 s1 s2 s3
 have m0 : MemPlace.cell 5 0 ∈ ps := by
  rw [hpa, hpb, hp0]; exact ybg _ (ybg _ (zvu (by decide)))
 have m1 : MemPlace.cell 2 0 ∈ ps := by
  rw [hpa, hpb, hp0, hp1]; exact ybg _ (ybg _ (ybg _ (zvu (by decide))))
 have m2 : MemPlace.cell 0 0 ∈ ps := by
  rw [hpa, hpb, hp0, hp1, hp2]; exact ybg _ (ybg _ (ybg _ (ybg _ (zvu (by decide)))))
 have m3 : MemPlace.cell 1 0 ∈ ps := by
  rw [hpa, hpb, hp0, hp1, hp2, hp3]; exact ybg _ (ybg _ (ybg _ (ybg _ (ybg _ (zvu (by decide))))))
 exact ⟨zma hg2 hv2 (hcell 0 0 m2).1, zma hg3 hv3 (hcell 1 0 m3).1, zma hg1 hv1 (hcell 2 0 m1).1, Tryz.laysM144.s1_3 W hsh, zma hg0 hv0 (hcell 5 0 m0).1⟩
theorem stopsHeard : Tryz.prog.stopsHeard = true := by kernel_rfl
theorem mayEnter : Tryz.prog.mayEnter = true := by kernel_rfl
theorem bool4 : Tryz.prog.underlying 4 = some .bool := Tryz.underlying4
end Go.Proofs.YtbgilkcahebbfaaGreatDoor
