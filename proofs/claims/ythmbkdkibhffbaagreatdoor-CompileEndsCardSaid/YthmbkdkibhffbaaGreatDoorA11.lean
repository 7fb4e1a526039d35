/- Seat 19: types, functions, variables, what the library's functions are worth; awake. -/
import Derived.ProofKit
import Derived.Test.YthmbkdkibhffbaaGreatDoorA09
import Derived.Test.YthmbkdkibhffbaaGreatDoorA10
set_option linter.all false
noncomputable section
set_option maxRecDepth 100000
namespace Go.Am
open Go Go.RowKit Go.Proofs
theorem z41 : allT (fun t ty => match tyOf Tryz.prog t with | some u => eqTy u ty | none => false) tys (fun n => n) = true := by kernel_rfl
theorem z40 {C : Ctx} (hC : C.tys = tys) : zdi Tryz.prog C := by
 intro t ty h; rw [hC] at h; have := zzh4 tys _ z41 t ty h
 cases hu : tyOf Tryz.prog t with
 | none => rw [hu] at this; cases this
 | some u => rw [hu] at this; rw [zzhn this]
theorem zys : (Tryz.funcs.toList.all fun fn => !(fn.name == "runtime.NumGoroutine")) = true := by kernel_rfl
theorem z1q {C : Ctx} (hC : C.fns = fns) : zuw Tryz.prog C := by
 intro f fn h; rw [hC] at h; unfold fns at h; rw [Tr.get_ofList] at h; have h2 : Tryz.prog.funcs[f]? = some fn := by
  show Tryz.funcs[f]? = some fn
  simpa using h
 refine ⟨h2, ?_⟩
 have := ybc.1 zys fn (List.mem_of_getElem? h)
 simpa using this
def zd5 : List (List UInt8) := zly.map fun l => l.map fun n => n.toUInt8
def u64s (l : List Int) : List Value := l.map fun n => .int .u64 n
theorem zz4 {μ : Mu} : ∀ l : List Int, zbz μ (l.map fun n => zab.int .u64 n) (u64s l)
 | [] => .nil
 | b :: l => .cons (by rw [zar]) (zz4 l)
structure zcy (w : World) : Prop where
 kinds : ∃ t, w.heap[0]? = some (.cells (zza5 zd5).toArray t (0, 0))
 most : ∃ m, w.cell? ⟨2, 0, none⟩ = some (.int .i64 m)
 pow : ∃ t, w.heap[5]? = some (.cells (u64s zlg).toArray t (0, 0))
theorem zcy.size {w : World} (h : zcy w) : 6 <= w.heap.size := by
 obtain ⟨t, h⟩ := h.pow
 have := (yaf.1 h).1
 omega
theorem zcy.below {w w' : World} {N : Nat} (hN : 6 <= N) (h : zcy w) (hb : Below N w w') : zcy w' := by
 refine ⟨?_, ?_, ?_⟩
 ·obtain ⟨t, h⟩ := h.kinds; exact ⟨t, by rw [hb.block 0 (by omega)]; exact h⟩
 ·obtain ⟨m, h⟩ := h.most; exact ⟨m, by rw [hb.cell (p := ⟨2, 0, none⟩) (by show 2 < N; omega)]; exact h⟩
 ·obtain ⟨t, h⟩ := h.pow; exact ⟨t, by rw [hb.block 5 (by omega)]; exact h⟩
theorem zcy.tab {w : World} (h : zcy w) : Lib.TabIs Tryz.prog w "internal/strconv.uint64pow10" .u64 Lib.pow10Tab := by
 obtain ⟨t, h⟩ := h.pow
 have hg : Tryz.prog.globalNamed "internal/strconv.uint64pow10" = some 5 := by kernel_rfl
 unfold Lib.TabIs World.var?
 rw [hg]; simp only [Option.bind_some, h]; rfl
theorem zvd : (zd5.map fun b => zab.str (b.map UInt8.toNat)) = zly.map zab.str := by
 have h : ((zd5.map fun b => b.map UInt8.toNat) == zly) = true := by kernel_rfl
 have h := eq_of_beq h
 rw [<- h, List.map_map]; rfl
theorem hrel19 {w : World} (h : zcy w) : zb1 256 w.heap.size mu0 H19 w := by
 have hget : ∀ a x, H19.t.get a = some x -> (a = 0 /\ x = .cells (Tr.ofList (zly.map zab.str)) (zbx (zly.map zab.str)) none) \/ (a = 5 /\ x = .cells (Tr.ofList (zlg.map fun n => zab.int .u64 n)) (zbx (zlg.map fun n => zab.int .u64 n)) none) := by
  intro a x hx; have hx : (glob 0 (zly.map zab.str) (glob 5 (zlg.map fun n => .int .u64 n) .leaf)).get a = some x := hx
  unfold glob at hx; rw [Tr.get_set, Tr.get_set] at hx; split at hx
  ·rename_i e; exact .inl ⟨e, (Option.some.inj hx).symm⟩
  ·split at hx
   ·rename_i e; exact .inr ⟨e, (Option.some.inj hx).symm⟩
   ·rw [Tr.get_leaf] at hx; cases hx
 have hsz := h.size
 refine ⟨yal _, fun g hg => by simp [mu0, hg], fun a x i _ hx hi => ?_, yal _, yal _, fun a ha => ?_, fun a x i hx hi => ?_, fun a i ha hi => ?_, fun a b x y i j hx _ _ _ ha _ _ => ?_, fun a x t ha => by cases ha⟩
 ·rcases hget a x hx with ⟨rfl, rfl⟩ | ⟨rfl, rfl⟩ <;> cases hi <;> exact ⟨Nat.lt_of_lt_of_le (by decide) hsz, rfl, rfl⟩
 ·have ha : 256 <= a := ha
  refine ⟨by simp [mu0]; omega, ?_⟩
  cases hx : H19.t.get a with
  | none => rfl
  | some x => rcases hget a x hx with ⟨rfl, _⟩ | ⟨rfl, _⟩ <;> omega
 ·rcases hget a x hx with ⟨rfl, rfl⟩ | ⟨rfl, rfl⟩
  ·obtain ⟨t, h⟩ := h.kinds
   cases hi; exact ⟨_, h, by rw [<- zvd]; exact zw0 (z0i zd5) t⟩
  ·obtain ⟨t, h⟩ := h.pow
   cases hi; exact ⟨_, h, zw0 (zz4 zlg) t⟩
 ·simp [mu0] at hi; omega
 ·rcases hget a x hx with ⟨rfl, _⟩ | ⟨rfl, _⟩ <;> omega
theorem zi7 {s : ByteArray} {l : List Nat} (h : zbm s = l) : s.data.toList.map UInt8.toNat = l := h
theorem zs0 {f : Nat} {fn : Func} (hf : Tryz.funcs[f]? = some fn) (hb : fn.body.isSome = true) {args : Array Value} {w : World} : (callFunc f args).run Tryz.prog w = .ok (.enter f args) w :=
 zh2 (C := C19w) (z1q rfl) (show fns.get f = some fn by unfold fns; rw [Tr.get_ofList]; simpa using hf) hb
section
variable {B N : Nat} {μ : Mu} {H : zaj} {w : World} {args : List zab} {args' : Array Value} {v : zab}
theorem zti {a b : zab} (h : zbz μ [a, b] args'.toList) : ∃ x y, args' = #[x, y] /\ zar μ a x /\ zar μ b y := by
 rw [zbz] at h; obtain ⟨x, r, h1, h2, h3⟩ := h
 rw [zbz] at h3; obtain ⟨y, r', h4, h5, h6⟩ := h3
 rw [zbz] at h6; subst h4 h6
 exact ⟨x, y, by apply Array.toList_inj.1; simpa using h1, h2, h5⟩
theorem z21 (hv : znf args H = some v) (hl : zbz μ args args'.toList) :
  (callFunc 343 args').run Tryz.prog w = .ok (.enter 343 args') w /\ Calls Tryz.prog 343 args' w fun e w' => ∃ v', e = .returned v' /\ zar μ v v' /\ Below w.heap.size w w' := by
 refine ⟨zs0 (fn := Tryz.f343) Tryz.func343 (by kernel_rfl), ?_⟩
 unfold znf at hv; split at hv
 case h_2 => cases hv
 rename_i s c; rw [zaf, zdh] at hv; obtain ⟨hc, hv⟩ := hv
 cases hv; obtain ⟨x, y, rfl, hx, hy⟩ := zti hl
 simp only [zar] at hx hy; obtain ⟨s', rfl, hs⟩ := hx
 subst hy; refine (Tryz.stringslite_IndexByte s' (Int.ofNat c) w).mono fun e w' ⟨he, hw⟩ => ?_
 subst hw; refine ⟨_, he, ?_, Below.refl _ _⟩
 have hcc : (c.toUInt8).toNat = c := by simp [Nat.toUInt8, UInt8.toNat_ofNat']; omega
 have := z1k c.toUInt8 s'.data.toList
 rw [hcc, zi7 hs] at this; rw [zar]; show Value.int .i64 (Lib.indexByte s'.data.toList c.toUInt8) = _
 rw [<- this]; done
theorem ztz (hI : zcy w) (hv : zp8 args H = some v) (hl : zbz μ args args'.toList) :
  (callFunc 242 args').run Tryz.prog w = .ok (.enter 242 args') w /\ Calls Tryz.prog 242 args' w fun e w' => ∃ v', e = .returned v' /\ zar μ v v' /\ Below w.heap.size w w' := by
 refine ⟨zs0 (fn := Tryz.f242) Tryz.func242 (by kernel_rfl), ?_⟩
 unfold zp8 at hv; split at hv
 case h_2 => cases hv
 rename_i s c; rw [zaf, zdh, zbb] at hv; obtain ⟨hlen, hv⟩ := hv
 cases hv; obtain ⟨x, y, rfl, hx, hy⟩ := zti hl
 rw [zar] at hx hy; obtain ⟨s', rfl, hs⟩ := hx
 obtain ⟨c', rfl, hc⟩ := hy
 obtain ⟨m, hm⟩ := hI.most
 have hsz : s'.size < 4294967281 := by
  have := congrArg List.length (zi7 hs)
  simp at this; omega
 refine (Tryz.strings_Contains s' c' m w hsz hm).mono fun e w' ⟨he, hw⟩ => ?_
 subst hw; refine ⟨_, he, ?_, Below.refl _ _⟩
 have := zqv c'.data.toList s'.data.toList
 rw [zi7 hs, zi7 hc] at this; rw [zar, this]
theorem zzbt (hI : zcy w) (hv : pCut args H = some v) (hl : zbz μ args args'.toList) :
  (callFunc 238 args').run Tryz.prog w = .ok (.enter 238 args') w /\ Calls Tryz.prog 238 args' w fun e w' => ∃ v', e = .returned v' /\ zar μ v v' /\ Below w.heap.size w w' := by
 refine ⟨zs0 (fn := Tryz.f238) Tryz.func238 (by kernel_rfl), ?_⟩
 unfold pCut at hv; split at hv
 case h_2 => cases hv
 rename_i s c; rw [zaf, zdh, zbb] at hv; obtain ⟨hlen, hv⟩ := hv
 obtain ⟨x, y, rfl, hx, hy⟩ := zti hl
 rw [zar] at hx hy; obtain ⟨s', rfl, hs⟩ := hx
 obtain ⟨c', rfl, hc⟩ := hy
 obtain ⟨m, hm⟩ := hI.most
 have hsz : s'.size < 4294967281 := by
  have := congrArg List.length (zi7 hs)
  simp at this; omega
 refine (Tryz.strings_Cut s' c' m w hsz hm).mono fun e w' ⟨he, n, hw⟩ => ?_
 subst hw; have hb : Below w.heap.size w (w.drewN n) := ⟨rfl, rfl, rfl, yal _, fun _ _ => rfl⟩
 refine ⟨_, he, ?_, hb⟩
 have hcut := zzfd c'.data.toList s'.data.toList
 rw [zi7 hs, zi7 hc] at hcut
 cases hx : zzc8 c s with
 | none =>
  rw [hx] at hcut hv
  cases hv; have hcut : Lib.index s'.data.toList c'.data.toList = -1 := hcut
  have e : Lib.cut s'.data.toList c'.data.toList = (s'.data.toList, [], false) := by unfold Lib.cut; rw [hcut]; rfl
  rw [e, zar]; exact ⟨_, rfl, .cons (by rw [zar]; exact ⟨_, rfl, by rw [<- hs]⟩) (.cons (by rw [zar]; exact ⟨_, rfl, by simp [zbm]⟩) (.single (by rw [zar])))⟩
 | some p =>
  rw [hx] at hcut hv
  cases hv; obtain ⟨a, b, rfl, h1, h2, h3⟩ := hcut
  have e : Lib.cut s'.data.toList c'.data.toList = (a, b, true) := by unfold Lib.cut; rw [if_pos h1, h2, h3]
  rw [e, zar]; exact ⟨_, rfl, .cons (by rw [zar]; exact ⟨_, rfl, by simp [zbm]⟩) (.cons (by rw [zar]; exact ⟨_, rfl, by simp [zbm]⟩) (.single (by rw [zar])))⟩
theorem z6w (hI : zcy w) (hv : z65 args H = some v) (hl : zbz μ args args'.toList) :
  (callFunc 291 args').run Tryz.prog w = .ok (.enter 291 args') w /\ Calls Tryz.prog 291 args' w fun e w' => ∃ v', e = .returned v' /\ zar μ v v' /\ Below w.heap.size w w' := by
 refine ⟨zs0 (fn := Tryz.f291) Tryz.func291 (by kernel_rfl), ?_⟩
 unfold z65 at hv; split at hv
 case h_2 => cases hv
 rename_i n; rw [zaf, yac] at hv; obtain ⟨⟨h1, h2⟩, hv⟩ := hv
 cases hv; rw [zbz] at hl; obtain ⟨x, r, he, hx, hr⟩ := hl
 rw [zbz] at hr; rw [zar] at hx; subst hr hx
 have : args' = #[.int .i64 n] := by apply Array.toList_inj.1; simpa using he
 subst this; have g1 : -9223372036854775808 <= n := (zy1 _ _).1 h1
 have g2 : n < 9223372036854775808 := (zqp _ _).1 h2
 refine (Tryz.strconv_Itoa n g1 (by omega) w hI.tab).mono fun e w' ⟨he, k, os, hw⟩ => ?_
 subst hw; refine ⟨_, he, by rw [zar]; exact ⟨_, rfl, rfl⟩, ⟨rfl, rfl, rfl, ?_, fun j hj => ?_⟩⟩
 ·simp [Sort.grow, World.drewN]
 ·show (w.heap ++ os)[j]? = w.heap[j]?
  rw [Array.getElem?_append_left hj]
end
theorem zyj (N : Nat) : zre Tryz.prog C19w 256 N zcy := by
 intro f g hg args H v hv μ w args' _ hI hl; have hg : zty.get f = some g := hg
 unfold zty at hg; rw [Tr.get_set, Tr.get_set] at hg; split at hg
 ·rename_i e; subst e; cases hg; exact .inr (ztz hI hv hl)
 ·split at hg
  ·rename_i e; subst e; cases hg; exact .inr (z21 hv hl)
  ·rw [Tr.get_leaf] at hg; cases hg
theorem sim19w (N : Nat) (hN : 6 <= N) : Sim Tryz.prog C19w 256 N zcy :=
 ⟨z40 rfl, z1q rfl, zyj N, yal _, by kernel_rfl, fun _ _ hb h => h.below hN hb⟩
theorem zx0 {C : Ctx} {f n : Nat} {args : List zab} {args' : Array Value} {w : World} (hw : zcy w) (hS : Sim Tryz.prog C 256 w.heap.size zcy) (hroot : C.root = f) (hl : zbz mu0 args args'.toList)
  (h : fin (z0p C n (zld C f args H19)) = 1) : Calls Tryz.prog f args' w fun e w' => e = .returned (.bool true) /\ Below w.heap.size w w' := by
 obtain ⟨H', hr⟩ := zzhg h
 unfold zld at hr; have stuck : ∀ (n k : Nat), z0p C n (.fail k) = .fail k := by
  intro n; induction n with
  | zero => intro k; rfl
  | succ n ih =>
   intro k; show z0p C n (z0p C n (.fail k)) = _
   rw [ih, ih]
 cases he : zen C f args false with
 | none =>
  rw [he] at hr; rw [stuck] at hr
  cases hr
 | some g =>
  rw [he] at hr; refine (zw2 hS hw hroot (hrel19 hw) hl he hr).mono fun e w' ⟨v', μ', h1, _, h3, _, h5⟩ => ?_
  rw [zar] at h3; exact ⟨by rw [h1, h3], h5⟩
theorem zzs {w : World} (hw : zcy w) : Calls Tryz.prog 14 #[] w fun e w' => e = .returned (.bool true) /\ Below w.heap.size w w' :=
 zx0 hw (sim19w _ hw.size) rfl .nil z94
end Go.Am
namespace Go.Am
open Go Go.RowKit Go.Proofs
def zvi (C : Ctx) (n : Nat) (o : zdo) : zdo := Nat.rec (motive := fun _ => zdo) o (fun _ g => zi8 C g) n
def todoO : zdo -> List zcf | .next s => s.fr.todo | _ => []
def tmO : zdo -> Tm | .next s => s.fr.tm | _ => ⟨0, .leaf, []⟩
def zme : zdo -> zgg | .next s => s.fr.R | _ => ⟨0, 0, [], .run, false, none⟩
def csO : zdo -> List zau | .next s => s.cs | _ => []
def zhr : zdo -> zaj | .next s => s.H | _ => ⟨0, .leaf⟩
def zzhv : Code -> Array Oper | .seq (.region _ ops _) _ => ops | .region _ ops _ => ops | _ => #[]
def zzda : Code -> List zcf | .seq _ b => [.code b] | _ => []
def zzgd (o : zdo) : Array Oper := match todoO o with | .code c :: _ => zzhv c | _ => #[]
def restO (o : zdo) : List zcf := match todoO o with | .code c :: k => ziv (zzda c) k | _ => []
def goO (C : Ctx) (o : zdo) (i : Nat) (tm : Tm) (H : zaj) : zdo := zlf C (zzgd o) (restO o) (zme o) (csO o) (zjv (zzgd o).toList i) tm H
def opO (o : zdo) (i : Nat) : Option Oper := ze6 (zzgd o).toList i
def z2k (C : Ctx) (o : zdo) (i : Nat) : Tm :=
 List.rec (motive := fun _ => Tm -> Tm) (fun tm => tm) (fun p _ g tm => g (match ((aop p.op).f C (.now tm) (zhr o)).asVal with | some q => putA (zme o).n tm p.dst q.1 | none => tm)) (zqh (zzgd o).toList i) (tmO o).cut
theorem zzhb {C : Ctx} {o : zdo} {i : Nat} {p : Oper} {tm : Tm} {H H' : zaj} {v : zab} (ho : opO o i = some p) (hg : p.guard = none) (hv : ((aop p.op).f C (.now tm) H).asVal = some (v, H')) :
  goO C o i tm H = goO C o (i + 1) (putA (zme o).n tm p.dst v) H' := by
 have hd : zjv (zzgd o).toList i = p :: zjv (zzgd o).toList (i + 1) := by
  unfold opO at ho; rw [zbh] at ho; rw [zfd, zfd]; have hlt := (yad.1 ho).1
  rw [yam hlt]; congr 1
  exact (yad.1 ho).2
 unfold goO; rw [hd, zlt]; have hw : zbd p.guard (zzgd o) tm = some true := by rw [hg]; rfl
 rw [hw]; simp only [hv]
theorem zzb6 {C : Ctx} {e : Env} {H : zaj} {t : Nat} {a : Operand} {b off : Nat} {ty : ATy} {c : Tr zab × Nat × Option Nat} {v : zab} (h1 : ev a e = some (.ptr b off)) (h2 : C.tys.get t = some ty) (h3 : za1 H b = some c) (h4 : znm ty c.1 off = some v) :
  ((aop (.load t a)).f C e H).asVal = some (v, H) := by
 show (lv (zno t a) C e H).asVal = _
 unfold lv zno; rw [h1, zac, show (zab.ptr b off).asPtr = some (b, off) from rfl, zac, h2, zac, h3, zac, h4]
 rfl
theorem z7u {C : Ctx} {e : Env} {H : zaj} {o : Op} {l : LOp} (ha : (aop o).f = lv l) {v : zab} (h : l C e H = some v) : ((aop o).f C e H).asVal = some (v, H) := by
 rw [ha]; unfold lv; rw [h]; rfl
def atO (C : Ctx) (o : zdo) (i : Nat) (tm : Tm) (H : zaj) : Option (zab × zaj × Option Nat) :=
 ob (opO o i) fun p => zan (zez p.guard) (ob ((aop p.op).f C (.now tm) H).asVal fun q => some (q.1, q.2, p.dst))
theorem zwn {C : Ctx} {o : zdo} {i : Nat} {tm : Tm} {H H' : zaj} {v : zab} {d : Option Nat} (h : atO C o i tm H = some (v, H', d)) : goO C o i tm H = goO C o (i + 1) (putA (zme o).n tm d v) H' := by
 unfold atO at h; simp only [zad, zaf] at h; obtain ⟨p, h1, h2, q, h3, h4⟩ := h
 cases h4; have hg : p.guard = none := by cases hx : p.guard with | none => rfl | some x => rw [hx] at h2; cases h2
 exact zzhb h1 hg h3
def zzd7 : Code -> Bool | .region _ _ false => true | .seq (.region _ _ false) _ => true | _ => false
def zzd5 : List zcf -> Bool | .code c :: _ => zzd7 c | _ => false
def zzd6 : zdo -> Bool | .next s => bif s.fr.R.mode.running then zzd5 s.fr.todo else false | _ => false
theorem zsm {α : Type} (l : List α) : zjv l 0 = l := by rw [zfd]; rfl
theorem zza7 {C : Ctx} {o : zdo} (h : zzd6 o = true) : zi8 C o = goO C o 0 (tmO o).cut (zhr o) := by
 cases o with
 | next s =>
  obtain ⟨⟨todo, tm, R⟩, cs, H⟩ := s
  have h : (bif R.mode.running then zzd5 todo else false) = true := h
  rw [zat] at h; split at h
  case isFalse => cases h
  rename_i hr; show (bif R.mode.running then zui C todo tm R cs H else zpj C ⟨todo, tm, R⟩ cs H) = _
  rw [hr, cond_true]
  cases todo with
  | nil => cases h
  | cons x k =>
   cases x with
   | code c =>
    have h : zzd7 c = true := h
    cases c with
    | region id ops d =>
     cases d with
     | true => cases h
     | false => unfold goO; rw [zsm]; rfl
    | seq a b =>
     cases a with
     | region id ops d =>
      cases d with
      | true => cases h
      | false => unfold goO; rw [zsm]; rfl
     | _ => cases h
    | _ => cases h
   | _ => cases h
 | _ => cases h
def CL : Ctx := ⟨fns, ks, tys, plans, .leaf, 257, 318⟩
def HL (c : Tr zab) (n : Nat) : zaj := ⟨257, Tr.set .leaf 256 (.cells c n none)⟩
def zyf : zdo -> Option zab | .done v _ => some v | _ => none
theorem z2v {o : zdo} {v : zab} (h : zyf o = some v) : ∃ H, o = .done v H := by
 cases o with
 | done u H => cases h; exact ⟨H, rfl⟩
 | _ => cases h
section
variable (c : Tr zab) (n off cap : Nat)
theorem long0 : zyf (z0p CL 6 (zld CL 318 [.slice 256 off 0 cap] (HL c n))) = some (.int .u64 0) := by kernel_rfl
theorem longN : zyf (z0p CL 6 (zld CL 318 [.nilslice] (HL c n))) = some (.int .u64 0) := by kernel_rfl
theorem longE : zyf (z0p CL 6 (zld CL 318 [.slice 0 0 0 0] (HL c n))) = some (.int .u64 0) := by kernel_rfl
def l1 (len : Nat) : zdo := zvi CL 17 (zld CL 318 [.slice 256 off len cap] (HL c n))
theorem zzci : zi8 CL (l1 c n off cap 1) = goO CL (l1 c n off cap 1) 4 (z2k CL (l1 c n off cap 1) 4) (zhr (l1 c n off cap 1)) := by kernel_rfl
theorem zzch : zi8 CL (l1 c n off cap 2) = goO CL (l1 c n off cap 2) 4 (z2k CL (l1 c n off cap 2) 4) (zhr (l1 c n off cap 2)) := by kernel_rfl
def ldOp : Oper -> Option (Nat × Operand) := fun o => match o.op with | .load t a => some (t, a) | _ => none
theorem l1_op1 : (match opO (l1 c n off cap 1) 4 with | some p => (ldOp p, zez p.guard, p.dst) | none => (none, false, none)) = (some (328, .tmp 14), true, some 15) := by kernel_rfl
theorem l1_ev1 : ev (.tmp 14) (.now (z2k CL (l1 c n off cap 1) 4)) = some (.ptr 256 (off + 0 * 1)) := by kernel_rfl
theorem l1_ev2 : ev (.tmp 14) (.now (z2k CL (l1 c n off cap 2) 4)) = some (.ptr 256 (off + 1 * 1)) := by kernel_rfl
theorem zzgy : za1 (zhr (l1 c n off cap 1)) 256 = some (c, n, none) := by kernel_rfl
theorem zzgx : za1 (zhr (l1 c n off cap 2)) 256 = some (c, n, none) := by kernel_rfl
theorem l1_op2 : (match opO (l1 c n off cap 2) 4 with | some p => (ldOp p, zez p.guard, p.dst) | none => (none, false, none)) = (some (328, .tmp 14), true, some 15) := by kernel_rfl
def l2 (len x : Nat) : zdo := goO CL (l1 c n off cap len) 5 (putA (zme (l1 c n off cap len)).n (z2k CL (l1 c n off cap len) 4) (some 15) (.int .u32 (.ofNat x))) (zhr (l1 c n off cap len))
def l3 (len x : Nat) : zdo := zvi CL 3 (l2 c n off cap len x)
theorem zzcg (x : Nat) : zi8 CL (l3 c n off cap 1 x) = goO CL (l3 c n off cap 1 x) 4 (z2k CL (l3 c n off cap 1 x) 4) (zhr (l3 c n off cap 1 x)) := by kernel_rfl
theorem zzcf (x : Nat) : zi8 CL (l3 c n off cap 2 x) = goO CL (l3 c n off cap 2 x) 4 (z2k CL (l3 c n off cap 2 x) 4) (zhr (l3 c n off cap 2 x)) := by kernel_rfl
def zzec : Oper -> Option (Nat × Operand × Operand) := fun o => match o.op with | .binOp .or t a b _ => some (t, a, b) | _ => none
theorem l3_op1 (x : Nat) : (match opO (l3 c n off cap 1 x) 4 with | some p => (zzec p, zez p.guard, p.dst) | none => (none, false, none)) = (some (56, .tmp 9, .tmp 11), true, some 12) := by kernel_rfl
theorem l3_op2 (x : Nat) : (match opO (l3 c n off cap 2 x) 4 with | some p => (zzec p, zez p.guard, p.dst) | none => (none, false, none)) = (some (56, .tmp 9, .tmp 11), true, some 12) := by kernel_rfl
theorem l3_or1 (x : Nat) : zwf .or 56 (.tmp 9) (.tmp 11) CL (.now (z2k CL (l3 c n off cap 1 x) 4)) (zhr (l3 c n off cap 1 x)) = zeh Nat.lor .u64 (zah .u64 (.ofNat 0 * .ofNat 4294967296)) (zah .u64 (.ofNat x)) := by kernel_rfl
theorem l3_or2 (x : Nat) : zwf .or 56 (.tmp 9) (.tmp 11) CL (.now (z2k CL (l3 c n off cap 2 x) 4)) (zhr (l3 c n off cap 2 x)) = zeh Nat.lor .u64 (zah .u64 (.ofNat 0 * .ofNat 4294967296)) (zah .u64 (.ofNat x)) := by kernel_rfl
def l4 (len x z : Nat) : zdo := goO CL (l3 c n off cap len x) 5 (putA (zme (l3 c n off cap len x)).n (z2k CL (l3 c n off cap len x) 4) (some 12) (.int .u64 (.ofNat z))) (zhr (l3 c n off cap len x))
theorem l4_end (x z : Nat) : zyf (z0p CL 6 (l4 c n off cap 1 x z)) = some (.int .u64 (.ofNat z)) := by kernel_rfl
def l5 (y z : Nat) : zdo := zvi CL 12 (l4 c n off cap 2 y z)
theorem zzgw (y z : Nat) : zi8 CL (l5 c n off cap y z) = goO CL (l5 c n off cap y z) 4 (z2k CL (l5 c n off cap y z) 4) (zhr (l5 c n off cap y z)) := by kernel_rfl
theorem l5_op (y z : Nat) : (match opO (l5 c n off cap y z) 4 with | some p => (ldOp p, zez p.guard, p.dst) | none => (none, false, none)) = (some (328, .tmp 14), true, some 15) := by kernel_rfl
theorem l5_ev (y z : Nat) : ev (.tmp 14) (.now (z2k CL (l5 c n off cap y z) 4)) = some (.ptr 256 (off + 0 * 1)) := by kernel_rfl
theorem l5_blk (y z : Nat) : za1 (zhr (l5 c n off cap y z)) 256 = some (c, n, none) := by kernel_rfl
def l6 (y z x : Nat) : zdo := goO CL (l5 c n off cap y z) 5 (putA (zme (l5 c n off cap y z)).n (z2k CL (l5 c n off cap y z) 4) (some 15) (.int .u32 (.ofNat x))) (zhr (l5 c n off cap y z))
def l7 (y z x : Nat) : zdo := zvi CL 3 (l6 c n off cap y z x)
theorem zzce (y z x : Nat) : zzd6 (l7 c n off cap y z x) = true := by kernel_rfl
def zzbi : Oper -> Option (Nat × Operand × Operand) := fun o => match o.op with | .binOp .shl t a k _ => some (t, a, k) | _ => none
def tA (y z x : Nat) : Tm := putA (zme (l7 c n off cap y z x)).n (tmO (l7 c n off cap y z x)).cut (some 8) (.int .u64 (.ofNat z))
theorem l7_0 (y z x : Nat) : atO CL (l7 c n off cap y z x) 0 (tmO (l7 c n off cap y z x)).cut (zhr (l7 c n off cap y z x)) = some (.int .u64 (.ofNat z), zhr (l7 c n off cap y z x), some 8) := by kernel_rfl
theorem l7_opS (y z x : Nat) : (match opO (l7 c n off cap y z x) 1 with | some p => (zzbi p, zez p.guard, p.dst) | none => (none, false, none)) = (some (56, .tmp 8, .const (.int .u64 32)), true, some 9) := by kernel_rfl
theorem l7_evS (y z x : Nat) : ev (.tmp 8) (.now (tA c n off cap y z x)) = some (.int .u64 (.ofNat z)) := by kernel_rfl
def tB (y z x s : Nat) : Tm := putA (zme (l7 c n off cap y z x)).n (tA c n off cap y z x) (some 9) (.int .u64 (.ofNat s))
theorem l7_2 (y z x s : Nat) : atO CL (l7 c n off cap y z x) 2 (tB c n off cap y z x s) (zhr (l7 c n off cap y z x)) = some (.int .u32 (.ofNat x), zhr (l7 c n off cap y z x), some 10) := by kernel_rfl
def tC (y z x s : Nat) : Tm := putA (zme (l7 c n off cap y z x)).n (tB c n off cap y z x s) (some 10) (.int .u32 (.ofNat x))
theorem l7_3 (y z x s : Nat) : atO CL (l7 c n off cap y z x) 3 (tC c n off cap y z x s) (zhr (l7 c n off cap y z x)) = some (.int .u64 (zah .u64 (.ofNat x)), zhr (l7 c n off cap y z x), some 11) := by kernel_rfl
def tD (y z x s x' : Nat) : Tm := putA (zme (l7 c n off cap y z x)).n (tC c n off cap y z x s) (some 11) (.int .u64 (.ofNat x'))
theorem l7_op (y z x : Nat) : (match opO (l7 c n off cap y z x) 4 with | some p => (zzec p, zez p.guard, p.dst) | none => (none, false, none)) = (some (56, .tmp 9, .tmp 11), true, some 12) := by kernel_rfl
theorem l7_ev9 (y z x s x' : Nat) : ev (.tmp 9) (.now (tD c n off cap y z x s x')) = some (.int .u64 (.ofNat s)) := by kernel_rfl
theorem zzgv (y z x s x' : Nat) : ev (.tmp 11) (.now (tD c n off cap y z x s x')) = some (.int .u64 (.ofNat x')) := by kernel_rfl
def l8 (y z x s x' u : Nat) : zdo := goO CL (l7 c n off cap y z x) 5 (putA (zme (l7 c n off cap y z x)).n (tD c n off cap y z x s x') (some 12) (.int .u64 (.ofNat u))) (zhr (l7 c n off cap y z x))
theorem l8_end (y z x s x' u : Nat) : zyf (z0p CL 6 (l8 c n off cap y z x s x' u)) = some (.int .u64 (.ofNat u)) := by kernel_rfl
theorem zep : CL.tys.get 328 = some ⟨.int .u32, 1, 4, [.int .u32 0], true⟩ := by kernel_rfl
end
end Go.Am
namespace Go.Am
open Go Go.RowKit
@[simp] theorem za0 {α : Type} {x : Option α} : zan true x = x := rfl
inductive D where
 | int (k : IntKind) (n : Int)
 | bool (b : Bool)
 | str (s : List Nat)
 | sl (sz : Nat) (l : List D)
 | st (l : List D)
def At (t : Tr zal) (b off : Nat) (cs : List zab) : Prop := ∃ c n lo, t.get b = some (.cells c n lo) /\ ∀ (j : Nat) a, cs[j]? = some a -> c.get (off + j) = some a
def zho (t : Tr zal) (sz : Nat) (v : zab) (cl : List (List zab)) : Prop :=
 (v = .nilslice /\ cl = []) \/ ∃ b off cap, v = .slice b off cl.length cap /\ cl.length <= cap /\ (∃ c n lo, t.get b = some (.cells c n lo) /\ (lo = none \/ lo = some sz)) /\ ∀ (i : Nat) cs, cl[i]? = some cs -> cs.length = sz /\ At t b (off + i * sz) cs
mutual
/-- cells read as data -/
def RD (t : Tr zal) : D -> List zab -> Prop
 | .int k n, cs => cs = [.int k n]
 | .bool b, cs => cs = [.bool b]
 | .str s, cs => cs = [.str s]
 | .sl sz l, cs => ∃ a cl, cs = [a] /\ zho t sz a cl /\ RDs t l cl
 | .st l, cs => ∃ cl, cs = cl.flatten /\ RDs t l cl
def RDs (t : Tr zal) : List D -> List (List zab) -> Prop
 | [], cl => cl = []
 | d :: l, cl => ∃ c r, cl = c :: r /\ RD t d c /\ RDs t l r
end
def TLe (t t' : Tr zal) : Prop := ∀ b y, t.get b = some y -> t'.get b = some y
theorem TLe.refl (t : Tr zal) : TLe t t := fun _ _ h => h
theorem TLe.trans {a b c : Tr zal} (h : TLe a b) (k : TLe b c) : TLe a c := fun x y e => k x y (h x y e)
section
variable {t t' : Tr zal} {C : Ctx}
theorem At.mono (h : TLe t t') {b off : Nat} {cs : List zab} (k : At t b off cs) : At t' b off cs := by
 obtain ⟨c, n, lo, h1, h2⟩ := k; exact ⟨c, n, lo, h _ _ h1, h2⟩
theorem zho.mono (h : TLe t t') {sz : Nat} {v : zab} {cl : List (List zab)} (k : zho t sz v cl) : zho t' sz v cl := by
 rcases k with k | ⟨b, off, cap, h1, h3, ⟨c, n, lo, h4, h5⟩, h2⟩
 ·exact .inl k
 ·exact .inr ⟨b, off, cap, h1, h3, ⟨c, n, lo, h _ _ h4, h5⟩, fun i cs hi => ⟨(h2 i cs hi).1, (h2 i cs hi).2.mono h⟩⟩
mutual
theorem RD.mono (h : TLe t t') : ∀ (d : D) (cs : List zab), RD t d cs -> RD t' d cs
 | .int _ _, _, k => k
 | .bool _, _, k => k
 | .str _, _, k => k
 | .sl _ l, _, ⟨a, cl, h1, h2, h3⟩ => ⟨a, cl, h1, h2.mono h, RDs.mono h l cl h3⟩
 | .st l, _, ⟨cl, h1, h2⟩ => ⟨cl, h1, RDs.mono h l cl h2⟩
theorem RDs.mono (h : TLe t t') : ∀ (l : List D) (cl : List (List zab)), RDs t l cl -> RDs t' l cl
 | [], _, k => k
 | d :: l, _, ⟨c, r, h1, h2, h3⟩ => ⟨c, r, h1, RD.mono h d c h2, RDs.mono h l r h3⟩
end
theorem RDs.length : ∀ {l : List D} {cl : List (List zab)}, RDs t l cl -> cl.length = l.length := by
 intro l; induction l with
 | nil => intro cl h; rw [RDs] at h; simp [h]
 | cons d l ih => intro cl h; rw [RDs] at h; obtain ⟨c, r, rfl, _, h3⟩ := h; simp [ih h3]
theorem RDs.get : ∀ {l : List D} {cl : List (List zab)} {i : Nat} {d : D}, RDs t l cl -> l[i]? = some d -> ∃ cs, cl[i]? = some cs /\ RD t d cs := by
 intro l; induction l with
 | nil => intro cl i d _ h; simp at h
 | cons e l ih =>
  intro cl i d h hi; rw [RDs] at h; obtain ⟨c, r, rfl, h2, h3⟩ := h
  cases i with
  | zero => simp at hi; subst hi; exact ⟨c, by simp, h2⟩
  | succ i => simp at hi; obtain ⟨cs, h4, h5⟩ := ih h3 hi; exact ⟨cs, by simpa using h4, h5⟩
theorem RDs.mk : ∀ {l : List D} {cl : List (List zab)}, cl.length = l.length -> (∀ (i : Nat) d cs, l[i]? = some d -> cl[i]? = some cs -> RD t d cs) -> RDs t l cl := by
 intro l; induction l with
 | nil => intro cl h _; rw [RDs]; simpa using h
 | cons e l ih =>
  intro cl h k
  cases cl with
  | nil => simp at h
  | cons c r =>
   rw [RDs]; exact ⟨c, r, rfl, k 0 e c (by simp) (by simp), ih (by simpa using h) fun i d cs h1 h2 => k (i + 1) d cs (by simpa using h1) (by simpa using h2)⟩
@[simp] theorem zgm {k : IntKind} {n : Int} {cs : List zab} : RD t (.int k n) cs ↔ cs = [.int k n] := Iff.rfl
@[simp] theorem zij {b : Bool} {cs : List zab} : RD t (.bool b) cs ↔ cs = [.bool b] := Iff.rfl
@[simp] theorem zll {s : List Nat} {cs : List zab} : RD t (.str s) cs ↔ cs = [.str s] := Iff.rfl
def RSl (t : Tr zal) (sz : Nat) (l : List D) (v : zab) : Prop := ∃ cl, zho t sz v cl /\ RDs t l cl
theorem RSl.mono (h : TLe t t') {sz : Nat} {l : List D} {v : zab} (k : RSl t sz l v) : RSl t' sz l v := by
 obtain ⟨cl, h1, h2⟩ := k; exact ⟨cl, h1.mono h, RDs.mono h _ _ h2⟩
theorem zk6 {sz : Nat} {l : List D} {cs : List zab} : RD t (.sl sz l) cs ↔ ∃ v, cs = [v] /\ RSl t sz l v := by
 rw [RD]; constructor
 ·rintro ⟨a, cl, rfl, h1, h2⟩; exact ⟨a, rfl, cl, h1, h2⟩
 ·rintro ⟨a, rfl, cl, h1, h2⟩; exact ⟨a, cl, rfl, h1, h2⟩
theorem zii {l : List D} {cs : List zab} : RD t (.st l) cs ↔ ∃ cl, cs = cl.flatten /\ RDs t l cl := by rw [RD]
theorem zbr {cl : List (List zab)} : RDs t [] cl ↔ cl = [] := by rw [RDs]
theorem zbc {d : D} {l : List D} {cl : List (List zab)} : RDs t (d :: l) cl ↔ ∃ c r, cl = c :: r /\ RD t d c /\ RDs t l r := by rw [RDs]
theorem RSl.one {sz : Nat} {l : List D} {v : zab} (h : RSl t sz l v) : zab.one v = true := by
 obtain ⟨cl, h1, _⟩ := h
 rcases h1 with ⟨rfl, _⟩ | ⟨b, off, cap, rfl, _⟩
 ·decide
 ·rfl
theorem RSl.len {sz : Nat} {l : List D} {v : zab} (h : RSl t sz l v) : za9 v = some (.int .i64 (l.length : Int)) := by
 obtain ⟨cl, h1, h2⟩ := h
 have := h2.length
 rcases h1 with ⟨rfl, rfl⟩ | ⟨b, off, cap, rfl, _⟩
 ·have : l.length = 0 := this.symm
  rw [this]; rfl
 ·rw [<- this]; rfl
theorem RSl.same {sz d : Nat} {l : List D} {v : zab} (h : RSl t sz l v) : same d v v = true := by
 obtain ⟨cl, h1, _⟩ := h
 rcases h1 with ⟨rfl, _⟩ | ⟨b, off, cap, rfl, _⟩
 ·cases d <;> (unfold Am.same; rfl)
 ·have e : ∀ n, Nat.beq n n = true := Nat.beq_refl
  cases d <;> (unfold Am.same; simp only [e, Bool.and_self])
theorem zbi {sz : Nat} {l : List D} {v : zab} (h : RSl t sz l v) : zjy .nilslice v = true := by
 obtain ⟨cl, h1, _⟩ := h
 rcases h1 with ⟨rfl, _⟩ | ⟨b, off, cap, rfl, _⟩ <;> rfl
theorem At.load {b off j n : Nat} {cs : List zab} (h : At t b off cs) {ty : Nat} {y : ATy} (hy : C.tys.get ty = some y) (ha : y.desc.isAgg = true) (hn : y.size = n) (hj : j + n <= cs.length) : zao C ty ⟨0, t⟩ (.ptr b (off + j)) = some (.agg ((cs.drop j).take n)) := by
 obtain ⟨c, m, lo, h1, h2⟩ := h
 unfold zao; simp only [zab.asPtr, zac]; rw [hy, zac]; unfold za1; rw [h1, zac]; simp only [zal.asCells, zac]; unfold znm; rw [ha, cond_true, hn]; have key : ∀ (n j : Nat), j + n <= cs.length -> c.many n (off + j) = some ((cs.drop j).take n) := by
  intro n; induction n with
  | zero => intro j _; simp; rfl
  | succ n ih =>
   intro j hj; have hlt : j < cs.length := by omega
   rw [Tr.many_succ, h2 j cs[j] (yae hlt), zac, show off + j + 1 = off + (j + 1) by omega, ih (j + 1) (by omega), zac, yam hlt, List.take_succ_cons]
 rw [key n j hj]; rfl
theorem At.load1 {b off j : Nat} {cs : List zab} {a : zab} (h : At t b off cs) {ty : Nat} {y : ATy} (hy : C.tys.get ty = some y) (ha : y.desc.isAgg = false) (hj : cs[j]? = some a) : zao C ty ⟨0, t⟩ (.ptr b (off + j)) = some a := by
 obtain ⟨c, m, lo, h1, h2⟩ := h
 unfold zao; simp only [zab.asPtr, zac]; rw [hy, zac]; unfold za1; rw [h1, zac]; simp only [zal.asCells, zac]; unfold znm; rw [ha, cond_false]; exact h2 j a hj
structure zkk (C : Ctx) (T el sz : Nat) (agg : Bool) : Prop where
 ty : ∃ y, C.tys.get T = some y /\ y.desc.asSlice = some el
 el : ∃ y, C.tys.get el = some y /\ y.size = sz /\ y.desc.isAgg = agg
def zrz (agg : Bool) (cs : List zab) : zab := if agg then .agg cs else match cs with | a :: _ => a | [] => .nilptr
theorem zkk.at {T el sz : Nat} {agg : Bool} (h : zkk C T el sz agg) (h1 : agg = false -> sz = 1) {l : List D} {v : zab} (hr : RSl t sz l v) {i : Nat} {d : D} (hi : l[i]? = some d) :
  ∃ b off cs, zae C T v (.int .i64 (i : Int)) = some (.ptr b off) /\ zao C el ⟨0, t⟩ (.ptr b off) = some (zrz agg cs) /\ At t b off cs /\ cs.length = sz /\ RD t d cs := by
 obtain ⟨⟨y, hy1, hy2⟩, ⟨z, hz1, hz2, hz3⟩⟩ := h
 obtain ⟨cl, he, hd⟩ := hr
 obtain ⟨cs, hc, hrd⟩ := hd.get hi
 rcases he with ⟨rfl, rfl⟩ | ⟨b, off, cap, rfl, _, _, he⟩
 ·simp at hc
 ·obtain ⟨hl, ha⟩ := he i cs hc
  have hlt : i < cl.length := (yad.1 hc).1
  refine ⟨b, off + i * sz, cs, ?_, ?_, ha, hl, hrd⟩
  ·unfold zae
   rw [hy1, zac]; have : (zab.int .i64 (i : Int)).asNat = some i := rfl
   rw [this, zac]; simp only [zab.asSlice]; rw [hy2, zac, hz1, zac, zdh.2 hlt, hz2]; rfl
  ·cases agg with
   | true =>
    have := ha.load (j := 0) hz1 hz3 hz2 (by omega)
    simp only [Nat.add_zero, List.drop_zero] at this; rw [this, <- hl, List.take_length]; rfl
   | false =>
    have hs := h1 rfl
    cases cs with
    | nil => simp at hl; omega
    | cons a r =>
     have := ha.load1 (j := 0) (a := a) hz1 hz3 (by simp)
     rw [Nat.add_zero] at this; rw [this]; rfl
end
section
variable {t : Tr zal} {C : Ctx}
theorem zkk.front {T el sz : Nat} {agg : Bool} (h : zkk C T el sz agg) {l : List D} {v : zab} (hr : RSl t sz l v) {k : Nat} (hk : k <= l.length) :
  ∃ v', zel C T ⟨0, t⟩ v none (some (.int .i64 (k : Int))) = some v' /\ RSl t sz (l.take k) v' := by
 obtain ⟨⟨y, hy1, hy2⟩, ⟨z, hz1, hz2, hz3⟩⟩ := h
 obtain ⟨cl, he, hd⟩ := hr
 have hlen := hd.length
 unfold zel; rw [hy1, zac]; have hb : ∀ y, zq3 y (.int .i64 (k : Int)) = zan (Nat.ble k y) (some k) := fun y => rfl
 rcases he with ⟨rfl, rfl⟩ | ⟨b, off, cap, rfl, hcap, ⟨c, n, lo, hg, hlo⟩, he⟩
 ·have : k = 0 := by simp at hlen; omega
  subst this; refine ⟨.nilslice, ?_, [], .inl ⟨rfl, rfl⟩, by simp [RDs]⟩
  unfold zhy; simp only [zab.asStr, zab.asSlice, zab.asPtr]; rw [hy2, zac, hz1, zac]; rfl
 ·refine ⟨.slice b off k cap, ?_, cl.take k, .inr ⟨b, off, cap, ?_, ?_, ⟨c, n, lo, hg, hlo⟩, fun i cs hi => ?_⟩, ?_⟩
  ·unfold zhy
   simp only [zab.asStr, zab.asSlice]; rw [hy2, zac]; unfold zd2; rw [hz1, zac]; unfold zhq zw8; simp only [hb]; rw [show Nat.ble k cap = true from zjz.2 (by omega)]
   simp only [za0, zac]; have hf : zcw ⟨0, t⟩ b z.size cap 0 false = true := by
    unfold zcw za1; rw [hg, zac]; simp only [zal.asCells]; rcases hlo with rfl | rfl
    ·rfl
    ·simp [hz2]
   rw [show Nat.ble k cap = true from zjz.2 (by omega), hf]
   simp only [Bool.and_self, za0]; congr 1
   cases hq : Nat.beq cap 0 <;> simp
  ·rw [List.length_take]; congr 1; omega
  ·rw [List.length_take]; omega
  ·rw [List.getElem?_take] at hi
   split at hi
   ·exact he i cs hi
   ·cases hi
  ·refine RDs.mk (by rw [List.length_take, List.length_take]; omega) fun i d cs h1 h2 => ?_
   rw [List.getElem?_take] at h1 h2; split at h1
   ·rename_i e
    rw [if_pos e] at h2; obtain ⟨cs', h3, h4⟩ := hd.get h1
    rw [h3] at h2; cases h2; exact h4
   ·cases h1
end
mutual
def D.zs : D -> List zab
 | .int k _ => [.int k 0]
 | .bool _ => [.bool false]
 | .str _ => [.str []]
 | .sl _ _ => [.nilslice]
 | .st l => D.zss l
def D.zss : List D -> List zab
 | [] => []
 | d :: l => d.zs ++ D.zss l
end
theorem zwo : ∀ (z z' l l' : List zab), zms z l = true -> zms z' l' = true -> zms (z ++ z') (l ++ l') = true
 | [], _, [], _, _, h => h
 | a :: z, z', b :: l, l', h, k => by
  unfold zms at h; rw [yac] at h; show (zjy a b && zms (z ++ z') (l ++ l')) = true
  rw [h.1, zwo z z' l l' h.2 k]; rfl
 | [], _, _ :: _, _, h, _ => by cases h
 | _ :: _, _, [], _, h, _ => by cases h
mutual
theorem z83 {t : Tr zal} : ∀ (d : D) (cs : List zab), RD t d cs -> zms d.zs cs = true
 | .int k n, cs, h => by
  rw [RD] at h; subst h; show (zjy (.int k 0) (.int k n) && true) = true
  simp only [zjy, zab.asIntK, Bool.and_true]; exact ze2.2 rfl
 | .bool _, cs, h => by rw [RD] at h; subst h; rfl
 | .str _, cs, h => by rw [RD] at h; subst h; rfl
 | .sl sz l, cs, h => by
  rw [zk6] at h; obtain ⟨v, rfl, h⟩ := h
  show (zjy .nilslice v && true) = true
  rw [zbi h]; rfl
 | .st l, cs, h => by
  rw [zii] at h; obtain ⟨cl, rfl, h⟩ := h
  show zms (D.zss l) cl.flatten = true
  exact z1r l cl h
theorem z1r {t : Tr zal} : ∀ (l : List D) (cl : List (List zab)), RDs t l cl -> zms (D.zss l) cl.flatten = true
 | [], cl, h => by rw [RDs] at h; subst h; rfl
 | d :: l, cl, h => by
  rw [RDs] at h; obtain ⟨c, r, rfl, h1, h2⟩ := h
  show zms (d.zs ++ D.zss l) (c :: r).flatten = true
  rw [List.flatten_cons]; exact zwo _ _ _ _ (z83 d c h1) (z1r l r h2)
end
theorem zag {k : IntKind} {n : Int} : z8n k (.int k n) = some n := by unfold z8n; simp only [zab.asIntK, zac]; rw [ze2.2 rfl]; rfl
theorem zay {b : Bool} : (zab.bool b).asBool = some b := rfl
theorem zca {s : List Nat} : (zab.str s).asStr = some s := rfl
theorem ze9 {d : Nat} {k : IntKind} {n : Int} : same d (.int k n) (.int k n) = true := by
 cases d <;> simp [same, ze2, zjg]
theorem z6e {d : Nat} {b : Bool} : same d (.bool b) (.bool b) = true := by cases d <;> simp [same, zol]
theorem zo1 {d : Nat} {s : List Nat} : same d (.str s) (.str s) = true := by cases d <;> simp [same, zf2]
theorem zak {n : Int} (h1 : -9223372036854775808 <= n) (h2 : n < 9223372036854775808) : zah .i64 n = n := by
 rw [zc0]; simp only [IntKind.wrap, IntKind.bits, IntKind.signed]; simp; omega
theorem zl0 {t : Tr zal} {d : D} {cs zs : List zab} (h : RD t d cs) (hz : d.zs = zs) : zoy zs (.agg cs) = some (cellsOf cs) := by
 unfold zoy; simp only [zab.asAgg, zac]; rw [<- hz, z83 d cs h]; rfl
theorem zfl {zs l : List zab} (h : zms zs l = true) : zoy zs (.agg l) = some (cellsOf l) := by
 unfold zoy; simp only [zab.asAgg, zac, h]; rfl
end Go.Am
namespace Go.Am
open Go Go.RowKit
def zd8 (l : List Nat) : List D := l.map fun (n : Nat) => D.int .u16 (n : Int)
theorem zjj (l : List Nat) : (zd8 l).length = l.length := by simp [zd8]
structure zdn where
 neg : Bool
 limbs : List Nat
def zdn.d (w : zdn) : D := .st [.bool w.neg, .sl 1 (zd8 w.limbs)]
structure zek where
 n : zdn
 d : zdn
def zek.dd (f : zek) : D := .st [f.n.d, f.d.d]
structure zc8 where
 kind : Nat
 f : zek
 i : Int
def zc8.d (v : zc8) : D := .st [.int .u8 v.kind, v.f.dd, .int .i64 v.i]
inductive zam where
 | mk (op : Nat) (name : List Nat) (v : zc8) (args : List zam)
def zam.op : zam -> Nat | .mk o _ _ _ => o
def zam.name : zam -> List Nat | .mk _ n _ _ => n
def zam.v : zam -> zc8 | .mk _ _ v _ => v
def zam.args : zam -> List zam | .mk _ _ _ a => a
mutual
def zam.d : zam -> D
 | .mk op name v args => .st [.int .u8 op, .str name, v.d, .sl 9 (zam.ds args)]
def zam.ds : List zam -> List D
 | [] => []
 | x :: l => x.d :: zam.ds l
end
theorem zam.ds_eq (l : List zam) : zam.ds l = l.map zam.d := by
 induction l with
 | nil => rfl
 | cons x l ih => simp [zam.ds, ih]
structure zhs where
 a : Int
 b : Int
 known : Int
 f : zek
def zhs.d (r : zhs) : D := .st [.int .i64 r.a, .int .i64 r.b, .int .i64 r.known, r.f.dd]
structure zb9 where
 name : List Nat
 two : Bool
 rows : List zhs
def zb9.d (x : zb9) : D := .st [.str x.name, .bool x.two, .sl 7 (x.rows.map zhs.d)]
structure zxk where
 name : List Nat
 kind : Nat
 fact : Bool
def zxk.d (x : zxk) : D := .st [.str x.name, .int .u8 x.kind, .bool x.fact]
structure za4 where
 name : List Nat
 label : List Nat
 from_ : Int
 to : Int
 known : Int
 off : Bool
 when_ : zam
 then_ : zam
def za4.d (x : za4) : D := .st [.str x.name, .str x.label, .int .i64 x.from_, .int .i64 x.to, .int .i64 x.known, .bool x.off, x.when_.d, x.then_.d]
structure zjm where
 name : List Nat
 defs : List zxk
 tables : List zb9
 clauses : List za4
def zjm.d (x : zjm) : D := .st [.str x.name, .sl 3 (x.defs.map zxk.d), .sl 3 (x.tables.map zb9.d), .sl 24 (x.clauses.map za4.d)]
section
variable {t : Tr zal} {cs : List zab}
theorem ztu {w : zdn} (h : RD t w.d cs) : ∃ v, cs = [.bool w.neg, v] /\ RSl t 1 (zd8 w.limbs) v := by
 unfold zdn.d at h; simp only [zii, zbc, zbr, zk6, zij] at h; obtain ⟨cl, rfl, c, r, rfl, rfl, c', r', rfl, ⟨v, rfl, h⟩, rfl⟩ := h
 exact ⟨v, rfl, h⟩
theorem z6n {f : zek} (h : RD t f.dd cs) : ∃ u v, cs = [.bool f.n.neg, u, .bool f.d.neg, v] /\ RSl t 1 (zd8 f.n.limbs) u /\ RSl t 1 (zd8 f.d.limbs) v := by
 unfold zek.dd at h; simp only [zii, zbc, zbr] at h; obtain ⟨cl, rfl, c, r, rfl, h1, c', r', rfl, h2, rfl⟩ := h
 obtain ⟨u, rfl, h3⟩ := ztu h1
 obtain ⟨v, rfl, h4⟩ := ztu h2
 exact ⟨u, v, rfl, h3, h4⟩
theorem rd_val {v : zc8} (h : RD t v.d cs) : ∃ a b, cs = [.int .u8 v.kind, .bool v.f.n.neg, a, .bool v.f.d.neg, b, .int .i64 v.i] /\ RSl t 1 (zd8 v.f.n.limbs) a /\ RSl t 1 (zd8 v.f.d.limbs) b := by
 unfold zc8.d at h; simp only [zii, zbc, zbr, zgm] at h; obtain ⟨cl, rfl, c, r, rfl, rfl, c', r', rfl, h2, c'', r'', rfl, rfl, rfl⟩ := h
 obtain ⟨a, b, rfl, h3, h4⟩ := z6n h2
 exact ⟨a, b, rfl, h3, h4⟩
theorem zhf {x : zam} (h : RD t x.d cs) : ∃ a b c, cs = [.int .u8 x.op, .str x.name, .int .u8 x.v.kind, .bool x.v.f.n.neg, a, .bool x.v.f.d.neg, b, .int .i64 x.v.i, c] ∧
  RSl t 1 (zd8 x.v.f.n.limbs) a /\ RSl t 1 (zd8 x.v.f.d.limbs) b /\ RSl t 9 (x.args.map zam.d) c := by
 obtain ⟨op, name, v, args⟩ := x
 unfold zam.d at h; rw [zam.ds_eq] at h; simp only [zii, zbc, zbr, zgm, zll, zk6] at h; obtain ⟨cl, rfl, c, r, rfl, rfl, c', r', rfl, rfl, c'', r'', rfl, hv, c3, r3, rfl, ⟨w, rfl, h4⟩, rfl⟩ := h
 obtain ⟨a, b, rfl, h5, h6⟩ := rd_val hv
 exact ⟨a, b, w, rfl, h5, h6, h4⟩
theorem z0u {r : zhs} (h : RD t r.d cs) : ∃ a b, cs = [.int .i64 r.a, .int .i64 r.b, .int .i64 r.known, .bool r.f.n.neg, a, .bool r.f.d.neg, b] /\ RSl t 1 (zd8 r.f.n.limbs) a /\ RSl t 1 (zd8 r.f.d.limbs) b := by
 unfold zhs.d at h; simp only [zii, zbc, zbr, zgm] at h; obtain ⟨cl, rfl, c, r, rfl, rfl, c', r', rfl, rfl, c'', r'', rfl, rfl, c3, r3, rfl, hf, rfl⟩ := h
 obtain ⟨a, b, rfl, h3, h4⟩ := z6n hf
 exact ⟨a, b, rfl, h3, h4⟩
theorem zo2 {x : zb9} (h : RD t x.d cs) : ∃ a, cs = [.str x.name, .bool x.two, a] /\ RSl t 7 (x.rows.map zhs.d) a := by
 unfold zb9.d at h; simp only [zii, zbc, zbr, zll, zij, zk6] at h; obtain ⟨cl, rfl, c, r, rfl, rfl, c', r', rfl, rfl, c'', r'', rfl, ⟨a, rfl, h⟩, rfl⟩ := h
 exact ⟨a, rfl, h⟩
theorem rd_def {x : zxk} (h : RD t x.d cs) : cs = [.str x.name, .int .u8 x.kind, .bool x.fact] := by
 unfold zxk.d at h; simp only [zii, zbc, zbr, zll, zij, zgm] at h; obtain ⟨cl, rfl, c, r, rfl, rfl, c', r', rfl, rfl, c'', r'', rfl, rfl, rfl⟩ := h
 rfl
def zex (x : zam) (a b c : zab) : List zab := [.int .u8 x.op, .str x.name, .int .u8 x.v.kind, .bool x.v.f.n.neg, a, .bool x.v.f.d.neg, b, .int .i64 x.v.i, c]
theorem zp5 {x : za4} (h : RD t x.d cs) : ∃ a b c a' b' c', cs = [.str x.name, .str x.label, .int .i64 x.from_, .int .i64 x.to, .int .i64 x.known, .bool x.off] ++ zex x.when_ a b c ++ zex x.then_ a' b' c' ∧
  RD t x.when_.d (zex x.when_ a b c) /\ RD t x.then_.d (zex x.then_ a' b' c') := by
 unfold za4.d at h; simp only [zii, zbc, zbr, zll, zij, zgm] at h; obtain ⟨cl, rfl, c1, r1, rfl, rfl, c2, r2, rfl, rfl, c3, r3, rfl, rfl, c4, r4, rfl, rfl, c5, r5, rfl, rfl, c6, r6, rfl, rfl, c7, r7, rfl, h7, c8, r8, rfl, h8, rfl⟩ := h
 obtain ⟨a, b, c, e1, _⟩ := zhf h7
 obtain ⟨a', b', c', e2, _⟩ := zhf h8
 subst e1 e2
 exact ⟨a, b, c, a', b', c', rfl, h7, h8⟩
theorem zp4 {x : zjm} (h : RD t x.d cs) : ∃ a b c, cs = [.str x.name, a, b, c] /\ RSl t 3 (x.defs.map zxk.d) a /\ RSl t 3 (x.tables.map zb9.d) b /\ RSl t 24 (x.clauses.map za4.d) c := by
 unfold zjm.d at h; simp only [zii, zbc, zbr, zll, zk6] at h; obtain ⟨cl, rfl, c1, r1, rfl, rfl, c2, r2, rfl, ⟨a, rfl, h1⟩, c3, r3, rfl, ⟨b, rfl, h2⟩, c4, r4, rfl, ⟨c, rfl, h3⟩, rfl⟩ := h
 exact ⟨a, b, c, rfl, h1, h2, h3⟩
end
theorem zdn.zs (x : zdn) : x.d.zs = [.bool false, .nilslice] := rfl
theorem zam.zs (x : zam) : x.d.zs = [.int .u8 0, .str [], .int .u8 0, .bool false, .nilslice, .bool false, .nilslice, .int .i64 0, .nilslice] := by cases x; rfl
theorem zhs.zs (x : zhs) : x.d.zs = [.int .i64 0, .int .i64 0, .int .i64 0, .bool false, .nilslice, .bool false, .nilslice] := rfl
theorem zb9.zs (x : zb9) : x.d.zs = [.str [], .bool false, .nilslice] := rfl
theorem za4.zs (x : za4) : x.d.zs = [.str [], .str [], .int .i64 0, .int .i64 0, .int .i64 0, .bool false, .int .u8 0, .str [], .int .u8 0, .bool false, .nilslice, .bool false, .nilslice, .int .i64 0, .nilslice, .int .u8 0, .str [], .int .u8 0, .bool false, .nilslice, .bool false, .nilslice, .int .i64 0, .nilslice] := by
 obtain ⟨_, _, _, _, _, _, w, v⟩ := x; cases w; cases v; rfl
def zh0 (f : zek) : Nat := 1 + f.n.limbs.length + f.d.limbs.length
mutual
/-- the size, as it is counted up to a limit -/
def zee : zam -> Int -> Int
 | .mk _ name v args, left => zgr args left (zh0 v.f + (name.length : Int) / 30)
def zgr : List zam -> Int -> Int -> Int
 | [], _, n => n
 | x :: l, left, n => if n <= left then zgr l left (n + zee x (left - n)) else n
end
def zgl : Nat := 1125899906842624
def zek.ok (f : zek) : Prop := f.n.limbs.length < zgl /\ f.d.limbs.length < zgl
mutual
def zam.ok : zam -> Prop
 | .mk _ name v args => name.length < zgl /\ v.f.ok /\ args.length < zgl /\ zam.oks args
def zam.oks : List zam -> Prop
 | [] => True
 | x :: l => x.ok /\ zam.oks l
end
end Go.Am
namespace Go.Am
open Go Go.RowKit
theorem zhc {f : zek} (h : f.ok) : zh0 f < 4503599627370496 := by
 unfold zek.ok zgl at h; unfold zh0; omega
mutual
theorem zi9 : ∀ (x : zam) (left : Int), x.ok -> 0 <= zee x left /\ zee x left <= max left 0 + 9007199254740992
 | .mk op name v args, left, h => by
  unfold zam.ok at h; obtain ⟨h1, h2, _, h4⟩ := h
  have hf := zhc h2
  unfold zgl at h1; unfold zee; have := zpw args left (zh0 v.f + (name.length : Int) / 30) h4 (by omega)
  omega
theorem zpw : ∀ (l : List zam) (left n : Int), zam.oks l -> 0 <= n -> n <= zgr l left n /\ zgr l left n <= max n (left + 9007199254740992)
 | [], left, n, _, _ => by unfold zgr; omega
 | x :: l, left, n, h, hn => by
  unfold zam.oks at h; unfold zgr; split
  ·have h1 := zi9 x (left - n) h.1
   have h2 := zpw l left (n + zee x (left - n)) h.2 (by omega)
   omega
  ·omega
end
theorem zax {a b : Int} : (iLt a b = true) ↔ a < b := zqp a b
theorem zc4 {a b : Int} : (iLe a b = true) ↔ a <= b := zy1 a b
theorem zk0 {α : Type} {l : List α} {i : Nat} {x : α} {r : List α} (h : l.drop i = x :: r) : l[i]? = some x /\ l.drop (i + 1) = r /\ i < l.length := by
 have h1 : (l.drop i)[0]? = some x := by rw [h]; rfl
 rw [List.getElem?_drop] at h1; have hi : i < l.length := by
  rcases Nat.lt_or_ge i l.length with hl | hl
  ·exact hl
  ·rw [yau hl] at h; cases h
 refine ⟨by simpa using h1, ?_, hi⟩
 have := List.drop_drop (l := l) (i := 1) (j := i)
 rw [h] at this; simpa [Nat.add_comm] using this.symm
theorem zmv {α : Type} {l : List α} {i : Nat} (h : l.drop i = []) : l.length <= i := by
 rcases Nat.lt_or_ge i l.length with hl | hl
 ·have := congrArg List.length h; simp at this; omega
 ·exact hl
theorem zf8 (l : List Nat) : (Int.ofNat (zbx l)) = (l.length : Int) := by rw [zbb]; rfl
theorem zxs (cs : List zab) : zrz true cs = .agg cs := rfl
end Go.Am
namespace Go.Am
open Go Go.RowKit
def zbg (k : IntKind) (l : List Nat) : List D := l.map fun (n : Nat) => D.int k (n : Int)
theorem zbk {k : IntKind} (l : List Nat) : (zbg k l).length = l.length := by simp [zbg]
theorem z9m {k : IntKind} {l : List Nat} {i x : Nat} (h : l[i]? = some x) : (zbg k l)[i]? = some (.int k (x : Int)) := by simp [zbg, h]
theorem zs2 {k : IntKind} {l : List Nat} {n : Nat} : (zbg k l).take n = zbg k (l.take n) := by simp [zbg]
def Own (t : Tr zal) (b : Nat) (k : IntKind) (l : List Nat) : Prop := ∃ c, t.get b = some (.cells c l.length none) /\ ∀ (j : Nat) x, l[j]? = some x -> c.get j = some (.int k (x : Int))
def Off (b : Nat) (t t' : Tr zal) : Prop := ∀ c, c ≠ b -> t'.get c = t.get c
theorem Off.refl (b : Nat) (t : Tr zal) : Off b t t := fun _ _ => rfl
theorem Off.trans {b : Nat} {x y z : Tr zal} (h : Off b x y) (k : Off b y z) : Off b x z := fun c hc => (k c hc).trans (h c hc)
section
variable {t t' t0 : Tr zal} {C : Ctx} {b : Nat} {k : IntKind} {l : List Nat}
theorem Own.off (h : Own t b k l) {c : Nat} (hc : b ≠ c) (ho : Off c t t') : Own t' b k l := by
 obtain ⟨x, h1, h2⟩ := h; exact ⟨x, by rw [ho b hc]; exact h1, h2⟩
theorem Own.tle (h : Own t b k l) (ho : TLe t t') : Own t' b k l := by
 obtain ⟨x, h1, h2⟩ := h; exact ⟨x, ho _ _ h1, h2⟩
theorem TLe.off (h : TLe t0 t) (hb : t0.get b = none) (ho : Off b t t') : TLe t0 t' := by
 intro c y hc; rw [ho c (by intro e; rw [e, hb] at hc; cases hc)]
 exact h c y hc
theorem Own.slice (h : Own t b k l) {off n cap : Nat} (hn : off + n <= l.length) (hc : n <= cap) : RSl t 1 (zbg k ((l.drop off).take n)) (.slice b off n cap) := by
 obtain ⟨c, h1, h2⟩ := h
 refine ⟨((l.drop off).take n).map fun (x : Nat) => [.int k (x : Int)], .inr ⟨b, off, cap, ?_, ?_, ⟨c, _, none, h1, .inl rfl⟩, fun i cs hi => ?_⟩, ?_⟩
 ·congr 1; simp; omega
 ·simp; omega
 ·simp only [yav, Option.map_eq_some_iff] at hi
  obtain ⟨x, hx, rfl⟩ := hi
  refine ⟨rfl, c, _, none, h1, fun j a hj => ?_⟩
  cases j with
  | zero =>
   simp at hj; subst hj; rw [List.getElem?_take] at hx; split at hx
   ·rw [List.getElem?_drop] at hx
    exact h2 (off + i * 1 + 0) x (by rw [show off + i * 1 + 0 = off + i by omega]; exact hx)
   ·cases hx
  | succ j => simp at hj
 ·refine RDs.mk (by simp [zbg]) fun i d cs hd hc => ?_
  simp only [zbg, yav, Option.map_eq_some_iff] at hd hc; obtain ⟨x, hx, rfl⟩ := hd
  obtain ⟨y, hy, rfl⟩ := hc
  rw [hx] at hy; cases hy; rfl
theorem Own.all (h : Own t b k l) {cap : Nat} (hc : l.length <= cap) : RSl t 1 (zbg k l) (.slice b 0 l.length cap) := by
 have := h.slice (off := 0) (n := l.length) (by omega) hc
 simpa using this
theorem zb7 {T el sz : Nat} {agg : Bool} (h : zkk C T el sz agg) {off n cap i : Nat} (hi : i < n) : zae C T (.slice b off n cap) (.int .i64 (i : Int)) = some (.ptr b (off + i * sz)) := by
 obtain ⟨⟨y, hy1, hy2⟩, ⟨z, hz1, hz2, hz3⟩⟩ := h
 unfold zae; rw [hy1, zac]; have : (zab.int .i64 (i : Int)).asNat = some i := rfl
 rw [this, zac]; simp only [zab.asSlice]; rw [hy2, zac, hz1, zac, zdh.2 hi, hz2]; rfl
theorem Own.load (h : Own t b k l) {j x : Nat} (hj : l[j]? = some x) {ty : Nat} {y : ATy} (hy : C.tys.get ty = some y) (ha : y.desc.isAgg = false) : zao C ty ⟨0, t⟩ (.ptr b j) = some (.int k (x : Int)) := by
 obtain ⟨c, h1, h2⟩ := h
 unfold zao; simp only [zab.asPtr, zac]; rw [hy, zac]; unfold za1; rw [h1, zac]; simp only [zal.asCells, zac]; unfold znm; rw [ha, cond_false]; exact h2 j x hj
theorem Own.store (h : Own t b k l) (hb : C.base <= b) {j : Nat} (hj : j < l.length) (x : Nat) {ty : Nat} {y : ATy} (hy : C.tys.get ty = some y) (hs : y.size = 1) :
  ∃ t', (∀ n, zb4 C ty (.ptr b j) (.int k (x : Int)) ⟨n, t⟩ = some (zbt, ⟨n, t'⟩)) /\ Own t' b k (l.set j x) /\ Off b t t' := by
 obtain ⟨c, h1, h2⟩ := h
 refine ⟨t.set b (.cells (c.setMany [.int k (x : Int)] j) l.length none), fun n => ?_, ⟨c.setMany [.int k (x : Int)] j, ?_, fun i y hi => ?_⟩, fun d hd => ?_⟩
 ·unfold zb4
  rw [hy, zac]; simp only [zab.asPtr, zac, zab.cells, zab.asAgg]; rw [hs]; have e1 : Nat.beq (zbx [zab.int k (x : Int)]) 1 = true := rfl
  rw [e1, za0]; unfold zhx za1; have e2 : (!Nat.blt b C.base) = true := by
   cases hq : Nat.blt b C.base with
   | true => have := zdh.1 hq; omega
   | false => rfl
  rw [e2, za0, h1, zac]; simp only [zal.asCells, zac]; have e3 : Nat.ble (j + zbx [zab.int k (x : Int)]) l.length = true := zjz.2 hj
  have e4 : zd7 zab.one [zab.int k (x : Int)] = true := rfl
  rw [e3, e4]; rfl
 ·rw [Tr.get_set, if_pos rfl, List.length_set]
 ·rw [Tr.get_setMany]
  rw [List.getElem?_set] at hi; split at hi
  ·rename_i e
   subst e; rw [if_pos (by simp)]
   cases hi; simp
  ·rename_i e
   rw [if_neg (by simp; omega)]
   exact h2 i y hi
 ·rw [Tr.get_set, if_neg hd]
theorem zku {T el : Nat} {y z : ATy} (hT : C.tys.get T = some y) (hel : y.desc.asSlice = some el) (hz : C.tys.get el = some z) (hzero : z.zero = [.int k 0]) (hs : z.size = 1) (hby : z.bytes <= 8) {n : Nat} (hn : n < 1000000) (hb : t.get b = none) :
  ∃ t', zcg C T (.int .i64 (n : Int)) (.int .i64 (n : Int)) ⟨b, t⟩ = some (.slice b 0 n n, ⟨b + 1, t'⟩) /\ Own t' b k (List.replicate n 0) /\ TLe t t' /\ Off b t t' := by
 have hrep : ∀ n, zsf [zab.int k 0] n = List.replicate n (.int k 0) := by
  intro n; induction n with
  | zero => rfl
  | succ n ih => unfold zsf; rw [ih, zck, List.replicate_succ]; rfl
 refine ⟨t.set b (.cells (Tr.ofList (zsf z.zero n)) (zbx (zsf z.zero n)) none), ?_, ⟨Tr.ofList (zsf z.zero n), ?_, fun j x hj => ?_⟩, fun c y' hc => ?_, fun c hc => ?_⟩
 ·unfold zcg
  rw [hT, zac, hel, zac, hz, zac]; have e1 : (zab.int .i64 (n : Int)).asNat = some n := rfl
  rw [e1, zac, zac]; have e2 : (Nat.ble n n && Nat.blt n 1000000 && Nat.blt (n * z.bytes) 1000000000 && Nat.beq (zbx z.zero) z.size) = true := by
   rw [hzero, hs, show Nat.ble n n = true from zjz.2 (yal n), zdh.2 hn]
   have : n * z.bytes < 1000000000 := by
    have := Nat.mul_le_mul (Nat.le_of_lt hn) hby
    omega
   rw [zdh.2 this]; rfl
  rw [e2, za0]; rfl
 ·rw [Tr.get_set, if_pos rfl, hzero, hrep, zbb]; simp
 ·rw [List.getElem?_replicate] at hj
  split at hj
  ·cases hj
   rw [Tr.get_ofList, hzero, hrep, List.getElem?_replicate]; rename_i e; rw [if_pos e]; rfl
  ·cases hj
 ·rw [Tr.get_set, if_neg (by intro e; rw [e, hb] at hc; cases hc)]; exact hc
 ·rw [Tr.get_set, if_neg hc]
end
end Go.Am
namespace Go.Am
def val (B : Nat) : List Nat -> Nat
 | [] => 0
 | a :: l => a + B * val B l
def za6 (B : Nat) (l : List Nat) : Prop := ∀ x ∈ l, x < B
def norm (l : List Nat) : Prop := ∀ h : l ≠ [], l.getLast h ≠ 0
theorem zgy (B : Nat) : ∀ (l m : List Nat), val B (l ++ m) = val B l + B ^ l.length * val B m
 | [], m => by simp [val]
 | a :: l, m => by
  simp only [List.cons_append, val, zgy B l m, yao, Nat.pow_succ]; rw [yan, <- yak, yai B (B ^ l.length)]
  omega
theorem zhw {B : Nat} (hB : 0 < B) : ∀ {l : List Nat}, za6 B l -> val B l < B ^ l.length
 | [], _ => by simp [val]
 | a :: l, h => by
  have h1 := h a (yaz)
  have h2 := zhw hB (l := l) fun x hx => h x (yas _ hx)
  simp only [val, yao, Nat.pow_succ]; have h3 : B * (val B l + 1) <= B * B ^ l.length := yaw B h2
  rw [yan, yai B (B ^ l.length)] at h3
  omega
theorem zdp (B : Nat) (l : List Nat) (n : Nat) : val B l = val B (l.take n) + B ^ (l.take n).length * val B (l.drop n) := by
 rw [<- zgy, List.take_append_drop]
theorem zej {B : Nat} {l : List Nat} (h : za6 B l) (n : Nat) : za6 B (l.take n) := fun x hx => h x (List.mem_of_mem_take hx)
theorem z34 {B : Nat} {l : List Nat} (h : za6 B l) (n : Nat) : za6 B (l.drop n) := fun x hx => h x (List.mem_of_mem_drop hx)
theorem z98 {B : Nat} {l m : List Nat} (h : za6 B l) (k : za6 B m) : za6 B (l ++ m) := fun x hx => (List.mem_append.1 hx).elim (h x) (k x)
def zc7 : List Nat -> List Nat
 | [] => []
 | a :: l => if zc7 l = [] /\ a = 0 then [] else a :: zc7 l
theorem zes (B : Nat) : ∀ l : List Nat, val B (zc7 l) = val B l
 | [] => rfl
 | a :: l => by
  unfold zc7; have ih := zes B l
  split
  ·rename_i h
   rw [h.1] at ih; have : val B l = 0 := by rw [<- ih]; rfl
   simp [val, this, h.2]
  ·simp [val, ih]
theorem zeg : ∀ l : List Nat, norm (zc7 l)
 | [] => fun h => (h rfl).elim
 | a :: l => by
  have ih := zeg l
  unfold zc7; split
  ·exact fun h => (h rfl).elim
  ·rename_i h
   intro hne; by_cases hs : zc7 l = []
   ·have ha : a ≠ 0 := fun e => h ⟨hs, e⟩
    simp [hs, ha]
   ·rw [List.getLast_cons hs]; exact ih hs
theorem zdv {B : Nat} : ∀ {l : List Nat}, za6 B l -> za6 B (zc7 l)
 | [], h => h
 | a :: l, h => by
  have ih := zdv (l := l) fun x hx => h x (yas _ hx)
  unfold zc7; split
  ·exact fun x hx => (by cases hx)
  ·exact fun x hx => (yat.1 hx).elim (fun e => e ▸ h a yaz) (ih x)
theorem zvf : ∀ l : List Nat, (zc7 l).length <= l.length
 | [] => yal _
 | a :: l => by unfold zc7; have := zvf l; split <;> simp <;> omega
theorem zm8 : ∀ l : List Nat, zc7 (l ++ [0]) = zc7 l
 | [] => by simp [zc7]
 | a :: l => by
  show (if zc7 (l ++ [0]) = [] /\ a = 0 then [] else a :: zc7 (l ++ [0])) = _
  rw [zm8 l]; rfl
theorem zin : ∀ {l : List Nat}, norm l -> zc7 l = l
 | [], _ => rfl
 | a :: l, h => by
  have hl : norm l := by
   intro hne; have := h (by simp)
   rw [List.getLast_cons hne] at this; exact this
  unfold zc7; rw [zin hl]; split
  ·rename_i e
   have := h (by simp)
   obtain ⟨rfl, rfl⟩ := e
   simp at this
  ·rfl
theorem zyr {B : Nat} (hB : 0 < B) {l : List Nat} (h : norm l) (h0 : val B l = 0) : l = [] := by
 have key : ∀ l : List Nat, val B l = 0 -> ∀ x ∈ l, x = 0 := by
  intro l; induction l with
  | nil => intro _ x hx; cases hx
  | cons a l ih =>
   intro h x hx; simp only [val] at h; have ha : a = 0 := by omega
   have hm : B * val B l = 0 := by omega
   have hl : val B l = 0 := by
    rcases Nat.mul_eq_zero.1 hm with e | e
    ·omega
    ·exact e
   rcases yat.1 hx with rfl | hx
   ·exact ha
   ·exact ih hl x hx
 rcases List.eq_nil_or_concat l with e | ⟨m, a, e⟩
 ·exact e
 ·exfalso
  subst e; have := h (by simp)
  simp at this; exact this (key _ h0 a (by simp))
theorem z4q {B : Nat} {l : List Nat} (h : norm l) (hne : l ≠ []) : B ^ (l.length - 1) <= val B l := by
 rcases List.eq_nil_or_concat l with e | ⟨m, a, e⟩
 ·exact absurd e hne
 ·rw [List.concat_eq_append] at e
  subst e; have := h (by simp)
  simp at this; rw [zgy]; simp only [yah, yao, yay, val]; have : 1 <= a + B * 0 := by omega
  calc B ^ (m.length + 1 - 1) = B ^ m.length * 1 := by simp
   _ <= B ^ m.length * (a + B * 0) := yaw _ this
   _ <= _ := Nat.le_add_left _ _
theorem z4p {B : Nat} (hB : 0 < B) : ∀ {l m : List Nat}, za6 B l -> za6 B m -> l.length = m.length -> val B l = val B m -> l = m
 | [], [], _, _, _, _ => rfl
 | a :: l, b :: m, h1, h2, hl, hv => by
  have ha := h1 a yaz
  have hb := h2 b yaz
  simp only [val] at hv; have e1 : a = b := by
   have := congrArg (· % B) hv
   simp only [Nat.add_mul_mod_self_left, Nat.mod_eq_of_lt ha, Nat.mod_eq_of_lt hb] at this; exact this
  subst e1; have e2 : val B l = val B m := by
   have : B * val B l = B * val B m := by omega
   exact Nat.eq_of_mul_eq_mul_left hB this
  rw [z4p hB (fun x hx => h1 x (yas _ hx)) (fun x hx => h2 x (yas _ hx)) (by simpa using hl) e2]
 | [], _ :: _, _, _, h, _ => by simp at h
 | _ :: _, [], _, _, h, _ => by simp at h
theorem zfc {B : Nat} (hB : 1 < B) {l m : List Nat} (h1 : za6 B l) (h3 : norm m) (hv : val B m <= val B l) : m.length <= l.length := by
 by_cases hm : m = []
 ·simp [hm]
 ·have a := z4q (B := B) h3 hm
  have b := zhw (by omega) h1
  have : B ^ (m.length - 1) < B ^ l.length := by omega
  have := (Nat.pow_lt_pow_iff_right hB).1 this
  omega
theorem zzb3 {B : Nat} (hB : 1 < B) {l m : List Nat} (h1 : za6 B l) (h2 : za6 B m) (h3 : norm l) (h4 : norm m) (hv : val B l = val B m) : l = m := by
 have a := zfc hB h1 h4 (by omega)
 have b := zfc hB h2 h3 (by omega)
 exact z4p (by omega) h1 h2 (by omega) hv
def zuo (a b : List Nat) : Int := if a.length ≠ b.length then (if a.length < b.length then -1 else 1) else go a b
where go : List Nat -> List Nat -> Int
 | a :: l, b :: m => if go l m ≠ 0 then go l m else if a < b then -1 else if b < a then 1 else 0
 | _, _ => 0
theorem z9t {B : Nat} : ∀ {a b : List Nat}, za6 B a -> za6 B b -> a.length = b.length -> (zuo.go a b < 0 ↔ val B a < val B b) /\ (zuo.go a b = 0 ↔ val B a = val B b)
 | [], [], _, _, _ => by simp [zuo.go, val]
 | a :: l, b :: m, h1, h2, hl => by
  have ha := h1 a yaz
  have hb := h2 b yaz
  obtain ⟨i1, i2⟩ := z9t (a := l) (b := m) (fun x hx => h1 x (yas _ hx)) (fun x hx => h2 x (yas _ hx)) (by simpa using hl)
  have lt_of : ∀ {x y : Nat}, x < y -> ∀ u v, u < B -> u + B * x < v + B * y := by
   intro x y h u v hu; have : B * (x + 1) <= B * y := yaw B h
   rw [yan] at this; omega
  unfold zuo.go; simp only [val]; by_cases h0 : zuo.go l m = 0
  ·have e := i2.1 h0
   rw [if_neg (by simpa using h0), e]
   by_cases c1 : a < b
   ·rw [if_pos c1]; constructor <;> constructor <;> intro h <;> omega
   ·rw [if_neg c1]
    by_cases c2 : b < a
    ·rw [if_pos c2]; constructor <;> constructor <;> intro h <;> omega
    ·rw [if_neg c2]; constructor <;> constructor <;> intro h <;> omega
  ·rw [if_pos h0]
   constructor
   ·rw [i1]
    constructor
    ·intro h; exact lt_of h a b ha
    ·intro h
     rcases Nat.lt_trichotomy (val B l) (val B m) with g | g | g
     ·exact g
     ·exact absurd (i2.2 g) h0
     ·have := lt_of g b a hb; omega
   ·constructor
    ·intro h; exact absurd h h0
    ·intro h
     rcases Nat.lt_trichotomy (val B l) (val B m) with g | g | g
     ·have := lt_of g a b ha; omega
     ·exact i2.2 g
     ·have := lt_of g b a hb; omega
 | [], _ :: _, _, _, h => by simp at h
 | _ :: _, [], _, _, h => by simp at h
theorem z9s {B : Nat} (hB : 1 < B) {a b : List Nat} (h1 : za6 B a) (h2 : za6 B b) (h3 : norm a) (h4 : norm b) : zuo a b < 0 ↔ val B a < val B b := by
 unfold zuo; by_cases hl : a.length = b.length
 ·rw [if_neg (by simpa using hl)]; exact (z9t h1 h2 hl).1
 ·rw [if_pos hl]
  by_cases hlt : a.length < b.length
  ·rw [if_pos hlt]
   refine ⟨fun _ => ?_, fun _ => by omega⟩
   rcases Nat.lt_or_ge (val B a) (val B b) with g | g
   ·exact g
   ·have := zfc hB h1 h4 g; omega
  ·rw [if_neg hlt]
   refine ⟨fun h => by omega, fun h => ?_⟩
   have := zfc hB h2 h3 (by omega); omega
end Go.Am
namespace Go.Am
open Go Go.RowKit
theorem za8 {n : Int} (h1 : 0 <= n) (h2 : n < 18446744073709551616) : zah .u64 n = n := by
 rw [zc0]; simp only [IntKind.wrap, IntKind.bits, IntKind.signed]; simp; omega
theorem zgn {n : Int} (h1 : 0 <= n) (h2 : n < 4294967296) : zah .u32 n = n := by
 rw [zc0]; simp only [IntKind.wrap, IntKind.bits, IntKind.signed]; simp; omega
theorem zzar {n : Int} (h1 : 0 <= n) (h2 : n < 65536) : zah .u16 n = n := by
 rw [zc0]; simp only [IntKind.wrap, IntKind.bits, IntKind.signed]; simp; omega
theorem z4j {n : Int} (h1 : 0 <= n) (h2 : n < 256) : zah .u8 n = n := by
 rw [zc0]; simp only [IntKind.wrap, IntKind.bits, IntKind.signed]; simp; omega
theorem zf4 (n : Int) : zah .u64 n = n % 18446744073709551616 := by
 rw [zc0]; simp only [IntKind.wrap, IntKind.bits, IntKind.signed]; simp
theorem zdc (n : Int) : zah .u32 n = n % 4294967296 := by
 rw [zc0]; simp only [IntKind.wrap, IntKind.bits, IntKind.signed]; simp
theorem z4i (n : Int) : zah .u16 n = n % 65536 := by
 rw [zc0]; simp only [IntKind.wrap, IntKind.bits, IntKind.signed]; simp
theorem zdg {f : Nat -> Nat -> Nat} {k : IntKind} {x y : Nat} (h1 : x < kHi k) (h2 : y < kHi k) : zeh f k (x : Int) (y : Int) = some (.int k (f x y : Nat)) := by
 unfold zeh; have e1 : zj9 (x : Int) = some x := rfl
 have e2 : zj9 (y : Int) = some y := rfl
 rw [e1, zac, e2, zac, zdh.2 h1, zdh.2 h2]; rfl
theorem zua {k : IntKind} {x y : Nat} (h0 : 0 < y) (hw : zah k ((x / y : Nat) : Int) = ((x / y : Nat) : Int)) : zzcm k (x : Int) (y : Int) = some (.int k ((x / y : Nat) : Int)) := by
 unfold zzcm; have : iEq (y : Int) 0 = false := by
  cases hq : iEq (y : Int) 0 with
  | false => rfl
  | true => have := (zjg _ _).1 hq; omega
 rw [this, cond_false, Int.tdiv_eq_ediv_of_nonneg (by omega)]
 rw [<- Int.natCast_ediv, hw]
theorem zo7 {k : IntKind} {x y : Nat} (h0 : 0 < y) : zzcl k (x : Int) (y : Int) = some (.int k ((x % y : Nat) : Int)) := by
 unfold zzcl; have : iEq (y : Int) 0 = false := by
  cases hq : iEq (y : Int) 0 with
  | false => rfl
  | true => have := (zjg _ _).1 hq; omega
 rw [this, cond_false, Int.tmod_eq_emod_of_nonneg (by omega), <- Int.natCast_emod]
theorem zbu {a b : Int} : (iEq a b = true) ↔ a = b := zjg a b
theorem zie {a b : Int} : ((!iEq a b) = true) ↔ a ≠ b := by rw [Bool.not_eq_true', <- Bool.not_eq_true, zbu]
theorem zo4 {b : Bool} : ((!b) = true) ↔ b = false := by simp
theorem zpx {a b n : Nat} (h : b < 2 ^ n) : Nat.lor (a * 2 ^ n) b = a * 2 ^ n + b := by
 show a * 2 ^ n ||| b = _
 rw [<- Nat.shiftLeft_eq, <- Nat.shiftLeft_add_eq_or_of_lt h, Nat.shiftLeft_eq]
theorem or_low {a b n : Nat} (h : b < 2 ^ n) (ha : a % 2 ^ n = 0) : Nat.lor a b = a + b := by
 obtain ⟨c, hc⟩ := Nat.dvd_of_mod_eq_zero ha
 subst hc; rw [yai]; exact zpx h
theorem RSl.idx {t : Tr zal} {C : Ctx} {T el : Nat} (h : zkk C T el 1 false) {k : IntKind} {l : List Nat} {v : zab} (hr : RSl t 1 (zbg k l) v) {i x : Nat} (hi : l[i]? = some x) :
  ∃ b off, zae C T v (.int .i64 (i : Int)) = some (.ptr b off) /\ zao C el ⟨0, t⟩ (.ptr b off) = some (.int k (x : Int)) := by
 obtain ⟨b, off, cs, h1, h2, _, _, h5⟩ := zkk.at h (fun _ => rfl) hr (z9m hi)
 rw [zgm] at h5; subst h5; exact ⟨b, off, h1, h2⟩
theorem zey (x : Nat) (n : Nat) : Int.fdiv (x : Int) (n : Int) = ((x / n : Nat) : Int) := by
 rw [Int.fdiv_eq_ediv_of_nonneg _ (by omega)]; exact (Int.natCast_ediv x n).symm
theorem getElem?_of_lt {l : List Nat} {i : Nat} (h : i < l.length) : ∃ x, l[i]? = some x := ⟨l[i], yae h⟩
theorem zbv {B : Nat} {l : List Nat} (h : za6 B l) {i x : Nat} (hi : l[i]? = some x) : x < B := h x (List.mem_of_getElem? hi)
theorem zmk {l : List Nat} (h : l ≠ []) : ∃ m x, l = m ++ [x] := by
 rcases List.eq_nil_or_concat l with e | ⟨m, a, e⟩
 ·exact absurd e h
 ·exact ⟨m, a, by rw [e, List.concat_eq_append]⟩
end Go.Am
namespace Go.Am
open Go Go.RowKit Go.Proofs
theorem z7x {p : Oper} {t : Nat} {a : Operand} (h : ldOp p = some (t, a)) : p.op = .load t a := by
 unfold ldOp at h; split at h
 ·rename_i e; cases h; exact e
 ·cases h
theorem zuc {C : Ctx} {o : zdo} {i : Nat} {tm : Tm} {H : zaj} {t : Nat} {a : Operand} {d : Option Nat} {b off : Nat} {ty : ATy} {cc : Tr zab × Nat × Option Nat} {v : zab}
  (ho : (match opO o i with | some p => (ldOp p, zez p.guard, p.dst) | none => (none, false, none)) = (some (t, a), true, d)) (h1 : ev a (.now tm) = some (.ptr b off)) (h2 : C.tys.get t = some ty) (h3 : za1 H b = some cc) (h4 : znm ty cc.1 off = some v) :
  goO C o i tm H = goO C o (i + 1) (putA (zme o).n tm d v) H := by
 refine zwn (v := v) (H' := H) (d := d) ?_
 unfold atO
 cases hp : opO o i with
 | none => rw [hp] at ho; cases ho
 | some p =>
  rw [hp] at ho; simp only [Prod.mk.injEq] at ho; obtain ⟨g1, g2, g3⟩ := ho
  rw [zac, g2, z7x g1, zzb6 h1 h2 h3 h4, g3]; rfl
theorem zud {C : Ctx} {o : zdo} {i : Nat} {tm : Tm} {H : zaj} {t : Nat} {a b : Operand} {d : Option Nat} {v : zab} {op : BinOp} {f : Oper -> Option (Nat × Operand × Operand)} (hf : ∀ p, f p = some (t, a, b) -> ∃ u, p.op = .binOp op t a b u)
  (ho : (match opO o i with | some p => (f p, zez p.guard, p.dst) | none => (none, false, none)) = (some (t, a, b), true, d)) (hv : zwf op t a b C (.now tm) H = some v) :
  goO C o i tm H = goO C o (i + 1) (putA (zme o).n tm d v) H := by
 refine zwn (v := v) (H' := H) (d := d) ?_
 unfold atO
 cases hp : opO o i with
 | none => rw [hp] at ho; cases ho
 | some p =>
  rw [hp] at ho; simp only [Prod.mk.injEq] at ho; obtain ⟨g1, g2, g3⟩ := ho
  obtain ⟨u, hu⟩ := hf p g1
  have : ((aop p.op).f C (.now tm) H).asVal = some (v, H) := by
   rw [hu]; exact z7u (l := zwf op t a b) rfl hv
  rw [zac, g2, this, g3]; rfl
theorem zp9 {t : Nat} {a b : Operand} (p : Oper) (h : zzec p = some (t, a, b)) : ∃ u, p.op = .binOp .or t a b u := by
 unfold zzec at h; split at h
 ·rename_i e; cases h; exact ⟨_, e⟩
 ·cases h
theorem z2p {t : Nat} {a b : Operand} (p : Oper) (h : zzbi p = some (t, a, b)) : ∃ u, p.op = .binOp .shl t a b u := by
 unfold zzbi at h; split at h
 ·rename_i e; cases h; exact ⟨_, e⟩
 ·cases h
theorem zzeb {x y : Nat} (hx : x < 18446744073709551616) (hy : y < 18446744073709551616) : zeh Nat.lor .u64 (.ofNat x) (.ofNat y) = some (.int .u64 (.ofNat (Nat.lor x y))) := zdg hx hy
theorem zta {x : Nat} (h : x < 18446744073709551616) : zah .u64 (.ofNat x) = .ofNat x := za8 (by show (0 : Int) <= (x : Int); omega) (by show (x : Int) < _; omega)
section
variable {c : Tr zab} {n off cap : Nat}
theorem z7o {x : Nat} (hx : c.get off = some (.int .u32 (.ofNat x))) : zi8 CL (l1 c n off cap 1) = l2 c n off cap 1 x := by
 rw [zzci, zuc (l1_op1 c n off cap) (l1_ev1 c n off cap) zep (zzgy c n off cap) (v := .int .u32 (.ofNat x)) hx]
 rfl
theorem z7n {x : Nat} (hx : c.get (off + 1) = some (.int .u32 (.ofNat x))) : zi8 CL (l1 c n off cap 2) = l2 c n off cap 2 x := by
 rw [zzch, zuc (l1_op2 c n off cap) (l1_ev2 c n off cap) zep (zzgx c n off cap) (v := .int .u32 (.ofNat x)) hx]
 rfl
theorem zero_or {x : Nat} (hx : x < 4294967296) : zeh Nat.lor .u64 (zah .u64 (.ofNat 0 * .ofNat 4294967296)) (zah .u64 (.ofNat x)) = some (.int .u64 (.ofNat x)) := by
 have e : zah .u64 (.ofNat 0 * .ofNat 4294967296) = .ofNat 0 := by decide
 rw [e, zta (by omega), zzeb (by decide) (by omega)]
 show some (zab.int .u64 (.ofNat (0 ||| x))) = _
 rw [Nat.zero_or]
theorem z7m {x : Nat} (hx : x < 4294967296) : zi8 CL (l3 c n off cap 1 x) = l4 c n off cap 1 x x := by
 rw [zzcg, zud (op := .or) (f := zzec) zp9 (l3_op1 c n off cap x) (v := .int .u64 (.ofNat x)) (by rw [l3_or1]; exact zero_or hx)]
 rfl
theorem z7l {x : Nat} (hx : x < 4294967296) : zi8 CL (l3 c n off cap 2 x) = l4 c n off cap 2 x x := by
 rw [zzcf, zud (op := .or) (f := zzec) zp9 (l3_op2 c n off cap x) (v := .int .u64 (.ofNat x)) (by rw [l3_or2]; exact zero_or hx)]
 rfl
theorem z29 {y z x : Nat} (hx : c.get off = some (.int .u32 (.ofNat x))) : zi8 CL (l5 c n off cap y z) = l6 c n off cap y z x := by
 rw [zzgw, zuc (l5_op c n off cap y z) (l5_ev c n off cap y z) zep (l5_blk c n off cap y z) (v := .int .u32 (.ofNat x)) hx]
 rfl
theorem z7q {y z x : Nat} (hz : z < 4294967296) (hx : x < 4294967296) : zi8 CL (l7 c n off cap y z x) = l8 c n off cap y z x (z * 4294967296) x (z * 4294967296 + x) := by
 have hb : ∀ (p q : Operand) (u v : Nat), (zw9 .or).f CL 56 p q (.int .u64 (.ofNat u)) (.int .u64 (.ofNat v)) = zeh Nat.lor .u64 (.ofNat u) (.ofNat v) := fun _ _ _ _ => rfl
 have hs : ∀ (p q : Operand) (u : Nat), (zw9 .shl).f CL 56 p q (.int .u64 (.ofNat u)) (.int .u64 32) = z3h .u64 (.ofNat u) 32 := fun _ _ _ => rfl
 have hw : zah .u64 (.ofNat z * .ofNat (2 ^ 32)) = .ofNat (z * 4294967296) := by
  rw [show (Int.ofNat z * Int.ofNat (2 ^ 32)) = Int.ofNat (z * 4294967296) from rfl, zta (by omega)]
 rw [zza7 (zzce c n off cap y z x), zwn (l7_0 c n off cap y z x)]
 show goO CL _ 1 (tA c n off cap y z x) _ = _
 rw [zud (op := .shl) (f := zzbi) z2p (l7_opS c n off cap y z x) (v := .int .u64 (.ofNat (z * 4294967296))) (by
  unfold zwf; rw [l7_evS, zac, show ev (.const (.int .u64 32)) (.now (tA c n off cap y z x)) = some (.int .u64 32) from rfl, zac, hs]
  unfold z3h zn8; rw [show zj9 32 = some 32 from rfl, zac, show min 32 IntKind.u64.bits = 32 from rfl, zac, hw])]
 show goO CL _ 2 (tB c n off cap y z x (z * 4294967296)) _ = _
 rw [zwn (l7_2 c n off cap y z x (z * 4294967296))]
 show goO CL _ 3 (tC c n off cap y z x (z * 4294967296)) _ = _
 have h3 := l7_3 c n off cap y z x (z * 4294967296)
 rw [zta (by omega : x < 18446744073709551616)] at h3
 rw [zwn h3]; show goO CL _ 4 (tD c n off cap y z x (z * 4294967296) x) _ = _
 rw [zud (op := .or) (f := zzec) zp9 (l7_op c n off cap y z x) (v := .int .u64 (.ofNat (z * 4294967296 + x))) (by
  unfold zwf; rw [l7_ev9, zac, zzgv, zac, hb, zzeb (by omega) (by omega), show (4294967296 : Nat) = 2 ^ 32 from rfl, zpx (by omega)])]
 rfl
end
def muL (i : Option BI) : Mu := ⟨fun g => if g < 256 then some ⟨g, true, 0, 0, true⟩ else if g = 256 then i else none, fun _ => none⟩
theorem zzg5 {w : World} {c : Tr zab} {n : Nat} {i : Option BI} (hi : ∀ j, i = some j -> j.b < w.heap.size /\ ∃ o, w.heap[j.b]? = some o /\ zm6 (muL i) j (.cells c n none) o) : zb1 257 w.heap.size (muL i) (HL c n) w := by
 have hget : ∀ a x, (HL c n).t.get a = some x -> a = 256 /\ x = .cells c n none := by
  intro a x hx; have hx : (Tr.set .leaf 256 (.cells c n none)).get a = some x := hx
  rw [Tr.get_set] at hx; split at hx
  ·rename_i e; exact ⟨e, (Option.some.inj hx).symm⟩
  ·rw [Tr.get_leaf] at hx; cases hx
 have h256 : (muL i) 256 = i := by show (if 256 < 256 then some (⟨256, true, 0, 0, true⟩ : BI) else if 256 = 256 then i else none) = i; rw [if_neg (by omega), if_pos rfl]
 refine ⟨by omega, fun g hg => by show (if g < 256 then some (⟨g, true, 0, 0, true⟩ : BI) else if g = 256 then i else none) = _; rw [if_pos hg], fun a x j _ hx hj => ?_, yal _, yal _, fun a ha => ?_, fun a x j hx hj => ?_, fun a j ha hj => ?_, fun a b x y j k hx _ _ _ ha _ _ => ?_, fun a x t ha => by cases ha⟩
 ·obtain ⟨rfl, rfl⟩ := hget a x hx
  rw [h256] at hj; exact ⟨(hi j hj).1, rfl, rfl⟩
 ·have ha : 257 <= a := ha
  refine ⟨by show (if a < 256 then some (⟨a, true, 0, 0, true⟩ : BI) else if a = 256 then i else none) = none; rw [if_neg (by omega), if_neg (by omega)], ?_⟩
  cases hx : (HL c n).t.get a with
  | none => rfl
  | some x => have := (hget a x hx).1; omega
 ·obtain ⟨rfl, rfl⟩ := hget a x hx
  rw [h256] at hj; exact (hi j hj).2
 ·have hj : (if a < 256 then some ⟨a, true, 0, 0, true⟩ else if a = 256 then i else none) = some j := hj
  rw [if_neg (by omega), if_neg (by omega)] at hj
  cases hj
 ·have := (hget a x hx).1; omega
theorem simL (N : Nat) : Sim Tryz.prog CL 257 N (fun _ => True) :=
 ⟨z40 rfl, z1q rfl, fun f g hg => by (have hg : Tr.leaf.get f = some g := hg; rw [Tr.get_leaf] at hg; cases hg), yal _, by kernel_rfl, fun _ _ _ h => h⟩
theorem z58 {P : Program} {C : Ctx} {B N : Nat} {μ : Mu} {w : World} {base : List Frame} (hF : zuw P C) {f : Nat} {args : List zab} {args' : Array Value} {H : zaj} (hH : zb1 B N μ H w) (hl : zbz μ args args'.toList) {g : zau} (he : zen C f args false = some g) :
  zb3 P C B N μ base (lone (Frame.enter P f args' .normal) base w) w (zld C f args H) := by
 unfold zld; rw [he]; exact ⟨μ, _, [], w, .refl _ _, fun _ _ h => h, Below.refl N w, hH, (zkz (cur := some H) hF he hl).1, .nil⟩
theorem zg7 {P : Program} {C : Ctx} {B N : Nat} {I : World -> Prop} {μ : Mu} {w : World} {base : List Frame} {m : Machine} (hS : Sim P C B N I) (hI : I w) : ∀ (n : Nat) {o : zdo}, zb3 P C B N μ base m w o -> zb3 P C B N μ base m w (zvi C n o)
 | 0, _, h => h
 | n + 1, _, h => zgo hS hI (zg7 hS hI n h)
theorem zzhp (a : zab) : ∃ g, zen CL 318 [a] false = some g := by
 have : (zen CL 318 [a] false).isSome = true := by kernel_rfl
 exact Option.isSome_iff_exists.1 this
theorem zq1 {w : World} {i : Option BI} {c : Tr zab} {n : Nat} (hH : zb1 257 w.heap.size (muL i) (HL c n) w) {a : zab} {a' : Value} (hl : zar (muL i) a a') {u : Nat} {o : zdo}
  (hrun : ∀ base m, zb3 Tryz.prog CL 257 w.heap.size (muL i) base m w (zld CL 318 [a] (HL c n)) -> zb3 Tryz.prog CL 257 w.heap.size (muL i) base m w o) (ho : zyf o = some (.int .u64 (.ofNat u))) :
  Calls Tryz.prog 318 #[a'] w fun e w' => e = .returned (.int .u64 (.ofNat u)) /\ Below w.heap.size w w' := by
 intro base; obtain ⟨g, he⟩ := zzhp a
 have h0 := hrun base _ (z58 (base := base) (simL w.heap.size).fns hH (args' := #[a']) (.single hl) he)
 obtain ⟨H', hd⟩ := z2v ho
 rw [hd] at h0; obtain ⟨μ', b, w', v', h2, h3, h4, h5, h6, h7, h8⟩ := h0
 rw [zar] at h6; subst h6; exact ⟨_, w', b, ⟨rfl, h4⟩, h2, h7, h8⟩
theorem zgz {a : zab} {x : Nat} (h : zxz a = some x) : a = .int .u32 (.ofNat x) /\ x < 4294967296 := by
 unfold zxz at h; simp only [zad, zaf, zce, ze2, beq_iff_eq, zdh] at h; obtain ⟨p, rfl, h1, y, h2, h3, h4⟩ := h
 cases h4; rw [ziu] at h2; rw [h1, h2]; exact ⟨rfl, h3⟩
theorem z6v {B N : Nat} {μ : Mu} {H : zaj} {w : World} {args : List zab} {args' : Array Value} {v : zab} (hH : zb1 B N μ H w) (hv : z64 args H = some v) (hl : zbz μ args args'.toList) :
  (callFunc 318 args').run Tryz.prog w = .ok (.enter 318 args') w /\ Calls Tryz.prog 318 args' w fun e w' => ∃ v', e = .returned v' /\ zar μ v v' /\ Below w.heap.size w w' := by
 refine ⟨zs0 (fn := Tryz.f318) Tryz.func318 (by kernel_rfl), ?_⟩
 have fin : ∀ {a' : Value} {u : Nat}, args' = #[a'] -> v = .int .u64 (.ofNat u) -> (Calls Tryz.prog 318 #[a'] w fun e w' => e = .returned (.int .u64 (.ofNat u)) /\ Below w.heap.size w w') →
   Calls Tryz.prog 318 args' w fun e w' => ∃ v', e = .returned v' /\ zar μ v v' /\ Below w.heap.size w w' := by
  intro a' u e1 e2 h; rw [e1]; exact h.mono fun e w' ⟨h1, h2⟩ => ⟨_, h1, by rw [e2, zar], h2⟩
 unfold z64 at hv; split at hv
 case h_2 => cases hv
 rename_i a; rw [zbz] at hl; obtain ⟨x, r, he, hx, hr⟩ := hl
 rw [zbz] at hr; subst hr; have hargs : args' = #[x] := by apply Array.toList_inj.1; simpa using he
 cases hs : a.asSlice with
 | none =>
  rw [hs] at hv; rw [zaf, zc1] at hv; obtain ⟨h1, h2⟩ := hv
  cases h2; have ha : a = .nilslice := zj3.2.1.1 h1
  subst ha; rw [zar] at hx; subst hx; refine fin (u := 0) hargs rfl (zq1 (i := none) (c := .leaf) (n := 0) (zzg5 fun j hj => by cases hj) (a := .nilslice) (by rw [zar]) (fun base m h => znb (simL _) trivial 6 h) (longN .leaf 0))
 | some s =>
  rw [hs] at hv; obtain ⟨sb, off, len, cap⟩ := s
  have ha := zdm.1 hs
  simp only at ha
  subst ha; simp only [zat] at hv; split at hv
  case isFalse => cases hv
  rename_i hlen; have hlen := zdh.1 hlen
  simp only [zad] at hv; obtain ⟨cc, hcc, l, hm, hv⟩ := hv
  rw [zar] at hx; rcases hx with ⟨j, cap', hj, rfl, _, _, _⟩ | ⟨k1, k2, k3, k4, A, rfl⟩
  rotate_left
  ·rw [k3] at hm
   cases hm
   cases hv; exact fin (u := 0) hargs rfl (zq1 (i := none) (c := .leaf) (n := 0) (zzg5 fun j hj => by cases hj) (a := .slice 0 0 0 0) (by rw [zar]; exact .inr ⟨rfl, rfl, rfl, rfl, A, rfl⟩) (fun base m h => znb (simL _) trivial 6 h) (longE .leaf 0))
  obtain ⟨o, ho1, ho2⟩ := hH.blk _ _ j (zei hcc) hj
  obtain ⟨cs, elem, fr, rfl, hn, _, hc, _⟩ := ho2
  obtain ⟨hl1, hl2⟩ := Tr.many_some _ _ _ _ hm
  have hget : ∀ k, (Tr.setMany l .leaf off).get k = if off <= k /\ k < off + l.length then l[k - off]? else none := fun k => by rw [Tr.get_setMany, Tr.get_leaf]
  have ints : ∀ a ∈ l, ∃ x : Nat, a = .int .u32 (.ofNat x) := by
   intro a ha; match l, hv, ha with
   | [], _, ha => cases ha
   | [b], hv, ha =>
    simp only [zyu, zad] at hv; obtain ⟨y, hy, _⟩ := hv
    simp at ha; subst ha; exact ⟨y, (zgz hy).1⟩
   | [b, d], hv, ha =>
    simp only [zyu, zad] at hv; obtain ⟨y, hy, z, hz, _⟩ := hv
    simp at ha; rcases ha with rfl | rfl
    ·exact ⟨y, (zgz hy).1⟩
    ·exact ⟨z, (zgz hz).1⟩
  have hrel : zb1 257 w.heap.size (muL (some ⟨j.b, true, 0, 0, true⟩)) (HL (Tr.setMany l .leaf off) cs.size) w := by
   refine zzg5 fun q hq => ?_
   cases hq; refine ⟨(yaf.1 ho1).1, _, ho1, cs, elem, fr, rfl, yal _, .inl rfl, fun k u hu => ?_, rfl⟩
   rw [hget] at hu; split at hu
   case isFalse => cases hu
   rename_i hk; have h1 := hl2 (k - off) (by omega)
   rw [show off + (k - off) = k by omega, hu] at h1
   obtain ⟨g1, v', g2, g3⟩ := hc k u h1
   obtain ⟨y, rfl⟩ := ints u (List.mem_of_getElem? hu)
   rw [zar] at g3; exact ⟨by omega, v', g2, by rw [zar]; exact g3⟩
  have hvr : zar (muL (some ⟨j.b, true, 0, 0, true⟩)) (.slice 256 off len cap') (.slice (some ⟨j.b, off, none⟩) len cap') := by
   rw [zar]; exact .inl ⟨⟨j.b, true, 0, 0, true⟩, cap', rfl, rfl, yal _, fun _ => rfl, fun h => by cases h⟩
  have hS := simL w.heap.size
  match l, hv, hl1, hl2, hget, hrel with
  | [], hv, hl1, _, _, hrel =>
   have : len = 0 := by simpa using hl1.symm
   subst this
   cases hv; exact fin (u := 0) hargs rfl (zq1 hrel hvr (fun base m h => znb hS trivial 6 h) (long0 _ _ _ _))
  | [a], hv, hl1, hl2, hget, hrel =>
   have : len = 1 := by simpa using hl1.symm
   subst this; simp only [zyu, zad] at hv; obtain ⟨y, hy, hv⟩ := hv
   cases hv; obtain ⟨rfl, hlt⟩ := zgz hy
   have g0 : (Tr.setMany [zab.int .u32 (.ofNat y)] .leaf off).get off = some (.int .u32 (.ofNat y)) := by rw [hget, if_pos (by simp)]; simp
   refine fin (u := y) hargs rfl (zq1 hrel hvr (o := z0p CL 6 (l4 (Tr.setMany [zab.int .u32 (.ofNat y)] .leaf off) cs.size off cap' 1 y y)) (fun base m h => ?_) (l4_end _ _ _ _ _ _))
   refine znb hS trivial 6 ?_
   rw [<- z7m hlt]; refine zgo hS trivial (zg7 hS trivial 3 ?_)
   rw [<- z7o g0]; exact zgo hS trivial (zg7 hS trivial 17 h)
  | [a, b], hv, hl1, hl2, hget, hrel =>
   have : len = 2 := by simpa using hl1.symm
   subst this; simp only [zyu, zad] at hv; obtain ⟨y, hy, z, hz, hv⟩ := hv
   cases hv; obtain ⟨rfl, hlt⟩ := zgz hy
   obtain ⟨rfl, hlt2⟩ := zgz hz
   have g0 : (Tr.setMany [zab.int .u32 (.ofNat y), zab.int .u32 (.ofNat z)] .leaf off).get off = some (.int .u32 (.ofNat y)) := by rw [hget, if_pos (by simp)]; simp
   have g1 : (Tr.setMany [zab.int .u32 (.ofNat y), zab.int .u32 (.ofNat z)] .leaf off).get (off + 1) = some (.int .u32 (.ofNat z)) := by rw [hget, if_pos (by simp)]; simp
   refine fin (u := z * 4294967296 + y) hargs (by rw [show y + 4294967296 * z = z * 4294967296 + y by omega]) (zq1 hrel hvr (o := z0p CL 6 (l8 (Tr.setMany [zab.int .u32 (.ofNat y), zab.int .u32 (.ofNat z)] .leaf off) cs.size off cap' z z y (z * 4294967296) y (z * 4294967296 + y))) (fun base m h => ?_) (l8_end _ _ _ _ _ _ _ _ _ _))
   refine znb hS trivial 6 ?_
   rw [<- z7q hlt2 hlt]; refine zgo hS trivial (zg7 hS trivial 3 ?_)
   rw [<- z29 g0]; refine zgo hS trivial (zg7 hS trivial 12 ?_)
   rw [<- z7l hlt2]; refine zgo hS trivial (zg7 hS trivial 3 ?_)
   rw [<- z7n g1]; exact zgo hS trivial (zg7 hS trivial 17 h)
end Go.Am
namespace Go.Am
open Go Go.RowKit Go.Proofs
theorem z2z [zcm] (B N : Nat) : zre Tryz.prog C19 B N zcy := by
 intro f g hg args H v hv μ w args' hH hI hl; have hg : z6u.get f = some g := hg
 unfold z6u at hg; rw [Tr.get_set, Tr.get_set, Tr.get_set, Tr.get_set] at hg; split at hg
 ·rename_i e; subst e; cases hg; exact .inr (z6w hI hv hl)
 ·split at hg
  ·rename_i e; subst e; cases hg; exact .inr (zzbt hI hv hl)
  ·split at hg
   ·rename_i e; subst e; cases hg; exact .inr (z6v hH hv hl)
   ·split at hg
    ·rename_i e
     subst e
     cases hg; refine .inr ⟨zs0 (fn := Tryz.f14) Tryz.func14 (by kernel_rfl), ?_⟩
     unfold zzgb at hv; split at hv
     case h_2 => cases hv
     cases hv; rw [zbz] at hl; have : args' = #[] := by apply Array.toList_inj.1; simpa using hl
     subst this; exact (zzs hI).mono fun e w' ⟨h1, h2⟩ => ⟨_, h1, by rw [zar], h2⟩
    ·rw [Tr.get_leaf] at hg; cases hg
theorem sim19 [zcm] (hN : 6 <= zcm.n) : Sim Tryz.prog C19 (256 + zcm.n) zcm.n zcy :=
 ⟨z40 rfl, z1q rfl, z2z _ _, yal _, by kernel_rfl, fun _ _ hb h => h.below hN hb⟩
end Go.Am
