/- Seat 19: types, functions, variables, what the library's functions are worth; awake. -/
import Derived.ProofKit
import Derived.Test.YthmbkdkibhffbaaGreatDoorC09
import Derived.Test.YthmbkdkibhffbaaGreatDoorC10
set_option linter.all false
noncomputable section
set_option maxRecDepth 100000
namespace Go.Am
open Go Go.RowKit Go.Proofs
theorem z5c : allT (fun t ty => match tyOf Tryz.prog t with | some u => eqTy u ty | none => false) tys (fun n => n) = true := by kernel_rfl
theorem z5b {C : Ctx} (hC : C.tys = tys) : zdm Tryz.prog C := by
 intro t ty h; rw [hC] at h; have := zzit tys _ z5c t ty h
 cases hu : tyOf Tryz.prog t with
 | none => rw [hu] at this; cases this
 | some u => rw [hu] at this; rw [zzib this]
theorem zyy : (Tryz.funcs.toList.all fun fn => !(fn.name == "runtime.NumGoroutine")) = true := by kernel_rfl
theorem z1z {C : Ctx} (hC : C.fns = fns) : zuy Tryz.prog C := by
 intro f fn h; rw [hC] at h; unfold fns at h; rw [Tr.get_ofList] at h; have h2 : Tryz.prog.funcs[f]? = some fn := by
  show Tryz.funcs[f]? = some fn
  simpa using h
 refine ⟨h2, ?_⟩
 have := ybc.1 zyy fn (List.mem_of_getElem? h)
 simpa using this
def zd9 : List (List UInt8) := zl1.map fun l => l.map fun n => n.toUInt8
def u64s (l : List Int) : List Value := l.map fun n => .int .u64 n
theorem z0b {μ : Mu} : ∀ l : List Int, zby μ (l.map fun n => zab.int .u64 n) (u64s l)
 | [] => .nil
 | b :: l => .cons (by rw [zaq]) (z0b l)
structure zcy (w : World) : Prop where
 kinds : ∃ t, w.heap[0]? = some (.cells (zzbe zd9).toArray t (0, 0))
 most : ∃ m, w.cell? ⟨2, 0, none⟩ = some (.int .i64 m)
 pow : ∃ t, w.heap[5]? = some (.cells (u64s zlj).toArray t (0, 0))
theorem zcy.size {w : World} (h : zcy w) : 6 <= w.heap.size := by
 obtain ⟨t, h⟩ := h.pow
 have := (yaf.1 h).1
 omega
theorem zcy.below {w w' : World} {N : Nat} (hN : 6 <= N) (h : zcy w) (hb : Below N w w') : zcy w' := by
 refine ⟨?_, ?_, ?_⟩
 ·obtain ⟨t, h⟩ := h.kinds; exact ⟨t, by rw [hb.block 0 (by omega)]; exact h⟩
 ·obtain ⟨m, h⟩ := h.most; exact ⟨m, by rw [hb.cell (p := ⟨2, 0, none⟩) (by show 2 < N; omega)]; exact h⟩
 ·obtain ⟨t, h⟩ := h.pow; exact ⟨t, by rw [hb.block 5 (by omega)]; exact h⟩
theorem zcy.tab {w : World} (h : zcy w) : Lib.TabIs Tryz.prog w "internal/strconv.uint64pow10" .u64 Lib.pow10Tab := by
 obtain ⟨t, h⟩ := h.pow
 have hg : Tryz.prog.globalNamed "internal/strconv.uint64pow10" = some 5 := by kernel_rfl
 unfold Lib.TabIs World.var?
 rw [hg]; simp only [Option.bind_some, h]; rfl
theorem zvh : (zd9.map fun b => zab.str (b.map UInt8.toNat)) = zl1.map zab.str := by
 have h : ((zd9.map fun b => b.map UInt8.toNat) == zl1) = true := by kernel_rfl
 have h := eq_of_beq h
 rw [<- h, List.map_map]; rfl
theorem hrel19 {w : World} (h : zcy w) : zb0 256 w.heap.size mu0 H19 w := by
 have hget : ∀ a x, H19.t.get a = some x -> (a = 0 /\ x = .cells (Tr.ofList (zl1.map zab.str)) (zbw (zl1.map zab.str)) none) \/ (a = 5 /\ x = .cells (Tr.ofList (zlj.map fun n => zab.int .u64 n)) (zbw (zlj.map fun n => zab.int .u64 n)) none) := by
  intro a x hx; have hx : (glob 0 (zl1.map zab.str) (glob 5 (zlj.map fun n => .int .u64 n) .leaf)).get a = some x := hx
  unfold glob at hx; rw [Tr.get_set, Tr.get_set] at hx; split at hx
  ·rename_i e; exact .inl ⟨e, (Option.some.inj hx).symm⟩
  ·split at hx
   ·rename_i e; exact .inr ⟨e, (Option.some.inj hx).symm⟩
   ·rw [Tr.get_leaf] at hx; cases hx
 have hsz := h.size
 refine ⟨yal _, fun g hg => by simp [mu0, hg], fun a x i _ hx hi => ?_, yal _, yal _, fun a ha => ?_, fun a x i hx hi => ?_, fun a i ha hi => ?_, fun a b x y i j hx _ _ _ ha _ _ => ?_, fun a x t ha => by cases ha⟩
 ·rcases hget a x hx with ⟨rfl, rfl⟩ | ⟨rfl, rfl⟩ <;> cases hi <;> exact ⟨Nat.lt_of_lt_of_le (by decide) hsz, rfl, rfl⟩
 ·have ha : 256 <= a := ha
  refine ⟨by simp [mu0]; omega, ?_⟩
  cases hx : H19.t.get a with
  | none => rfl
  | some x => rcases hget a x hx with ⟨rfl, _⟩ | ⟨rfl, _⟩ <;> omega
 ·rcases hget a x hx with ⟨rfl, rfl⟩ | ⟨rfl, rfl⟩
  ·obtain ⟨t, h⟩ := h.kinds
   cases hi; exact ⟨_, h, by rw [<- zvh]; exact zw4 (z0p zd9) t⟩
  ·obtain ⟨t, h⟩ := h.pow
   cases hi; exact ⟨_, h, zw4 (z0b zlj) t⟩
 ·simp [mu0] at hi; omega
 ·rcases hget a x hx with ⟨rfl, _⟩ | ⟨rfl, _⟩ <;> omega
theorem zi8 {s : ByteArray} {l : List Nat} (h : zbm s = l) : s.data.toList.map UInt8.toNat = l := h
theorem zs5 {f : Nat} {fn : Func} (hf : Tryz.funcs[f]? = some fn) (hb : fn.body.isSome = true) {args : Array Value} {w : World} : (callFunc f args).run Tryz.prog w = .ok (.enter f args) w :=
 zh3 (C := C19w) (z1z rfl) (show fns.get f = some fn by unfold fns; rw [Tr.get_ofList]; simpa using hf) hb
section
variable {B N : Nat} {μ : Mu} {H : zai} {w : World} {args : List zab} {args' : Array Value} {v : zab}
theorem ztn {a b : zab} (h : zby μ [a, b] args'.toList) : ∃ x y, args' = #[x, y] /\ zaq μ a x /\ zaq μ b y := by
 rw [zby] at h; obtain ⟨x, r, h1, h2, h3⟩ := h
 rw [zby] at h3; obtain ⟨y, r', h4, h5, h6⟩ := h3
 rw [zby] at h6; subst h4 h6
 exact ⟨x, y, by apply Array.toList_inj.1; simpa using h1, h2, h5⟩
theorem z3c (hv : zng args H = some v) (hl : zby μ args args'.toList) :
  (callFunc 343 args').run Tryz.prog w = .ok (.enter 343 args') w /\ Calls Tryz.prog 343 args' w fun e w' => ∃ v', e = .returned v' /\ zaq μ v v' /\ Below w.heap.size w w' := by
 refine ⟨zs5 (fn := Tryz.f343) Tryz.func343 (by kernel_rfl), ?_⟩
 unfold zng at hv; split at hv
 case h_2 => cases hv
 rename_i s c; rw [zae, zdl] at hv; obtain ⟨hc, hv⟩ := hv
 cases hv; obtain ⟨x, y, rfl, hx, hy⟩ := ztn hl
 simp only [zaq] at hx hy; obtain ⟨s', rfl, hs⟩ := hx
 subst hy; refine (Tryz.stringslite_IndexByte s' (Int.ofNat c) w).mono fun e w' ⟨he, hw⟩ => ?_
 subst hw; refine ⟨_, he, ?_, Below.refl _ _⟩
 have hcc : (c.toUInt8).toNat = c := by simp [Nat.toUInt8, UInt8.toNat_ofNat']; omega
 have := z1s c.toUInt8 s'.data.toList
 rw [hcc, zi8 hs] at this; rw [zaq]; show Value.int .i64 (Lib.indexByte s'.data.toList c.toUInt8) = _
 rw [<- this]; done
theorem zt4 (hI : zcy w) (hv : zqa args H = some v) (hl : zby μ args args'.toList) :
  (callFunc 242 args').run Tryz.prog w = .ok (.enter 242 args') w /\ Calls Tryz.prog 242 args' w fun e w' => ∃ v', e = .returned v' /\ zaq μ v v' /\ Below w.heap.size w w' := by
 refine ⟨zs5 (fn := Tryz.f242) Tryz.func242 (by kernel_rfl), ?_⟩
 unfold zqa at hv; split at hv
 case h_2 => cases hv
 rename_i s c; rw [zae, zdl, zbb] at hv; obtain ⟨hlen, hv⟩ := hv
 cases hv; obtain ⟨x, y, rfl, hx, hy⟩ := ztn hl
 rw [zaq] at hx hy; obtain ⟨s', rfl, hs⟩ := hx
 obtain ⟨c', rfl, hc⟩ := hy
 obtain ⟨m, hm⟩ := hI.most
 have hsz : s'.size < 4294967281 := by
  have := congrArg List.length (zi8 hs)
  simp at this; omega
 refine (Tryz.strings_Contains s' c' m w hsz hm).mono fun e w' ⟨he, hw⟩ => ?_
 subst hw; refine ⟨_, he, ?_, Below.refl _ _⟩
 have := zqy c'.data.toList s'.data.toList
 rw [zi8 hs, zi8 hc] at this; rw [zaq, this]
theorem zzb4 (hI : zcy w) (hv : pCut args H = some v) (hl : zby μ args args'.toList) :
  (callFunc 238 args').run Tryz.prog w = .ok (.enter 238 args') w /\ Calls Tryz.prog 238 args' w fun e w' => ∃ v', e = .returned v' /\ zaq μ v v' /\ Below w.heap.size w w' := by
 refine ⟨zs5 (fn := Tryz.f238) Tryz.func238 (by kernel_rfl), ?_⟩
 unfold pCut at hv; split at hv
 case h_2 => cases hv
 rename_i s c; rw [zae, zdl, zbb] at hv; obtain ⟨hlen, hv⟩ := hv
 obtain ⟨x, y, rfl, hx, hy⟩ := ztn hl
 rw [zaq] at hx hy; obtain ⟨s', rfl, hs⟩ := hx
 obtain ⟨c', rfl, hc⟩ := hy
 obtain ⟨m, hm⟩ := hI.most
 have hsz : s'.size < 4294967281 := by
  have := congrArg List.length (zi8 hs)
  simp at this; omega
 refine (Tryz.strings_Cut s' c' m w hsz hm).mono fun e w' ⟨he, n, hw⟩ => ?_
 subst hw; have hb : Below w.heap.size w (w.drewN n) := ⟨rfl, rfl, rfl, yal _, fun _ _ => rfl⟩
 refine ⟨_, he, ?_, hb⟩
 have hcut := zzfv c'.data.toList s'.data.toList
 rw [zi8 hs, zi8 hc] at hcut
 cases hx : zzdn c s with
 | none =>
  rw [hx] at hcut hv
  cases hv; have hcut : Lib.index s'.data.toList c'.data.toList = -1 := hcut
  have e : Lib.cut s'.data.toList c'.data.toList = (s'.data.toList, [], false) := by unfold Lib.cut; rw [hcut]; rfl
  rw [e, zaq]; exact ⟨_, rfl, .cons (by rw [zaq]; exact ⟨_, rfl, by rw [<- hs]⟩) (.cons (by rw [zaq]; exact ⟨_, rfl, by simp [zbm]⟩) (.single (by rw [zaq])))⟩
 | some p =>
  rw [hx] at hcut hv
  cases hv; obtain ⟨a, b, rfl, h1, h2, h3⟩ := hcut
  have e : Lib.cut s'.data.toList c'.data.toList = (a, b, true) := by unfold Lib.cut; rw [if_pos h1, h2, h3]
  rw [e, zaq]; exact ⟨_, rfl, .cons (by rw [zaq]; exact ⟨_, rfl, by simp [zbm]⟩) (.cons (by rw [zaq]; exact ⟨_, rfl, by simp [zbm]⟩) (.single (by rw [zaq])))⟩
theorem z67 (hI : zcy w) (hv : z7g args H = some v) (hl : zby μ args args'.toList) :
  (callFunc 291 args').run Tryz.prog w = .ok (.enter 291 args') w /\ Calls Tryz.prog 291 args' w fun e w' => ∃ v', e = .returned v' /\ zaq μ v v' /\ Below w.heap.size w w' := by
 refine ⟨zs5 (fn := Tryz.f291) Tryz.func291 (by kernel_rfl), ?_⟩
 unfold z7g at hv; split at hv
 case h_2 => cases hv
 rename_i n; rw [zae, yac] at hv; obtain ⟨⟨h1, h2⟩, hv⟩ := hv
 cases hv; rw [zby] at hl; obtain ⟨x, r, he, hx, hr⟩ := hl
 rw [zby] at hr; rw [zaq] at hx; subst hr hx
 have : args' = #[.int .i64 n] := by apply Array.toList_inj.1; simpa using he
 subst this; have g1 : -9223372036854775808 <= n := (zza _ _).1 h1
 have g2 : n < 9223372036854775808 := (zqs _ _).1 h2
 refine (Tryz.strconv_Itoa n g1 (by omega) w hI.tab).mono fun e w' ⟨he, k, os, hw⟩ => ?_
 subst hw; refine ⟨_, he, by rw [zaq]; exact ⟨_, rfl, rfl⟩, ⟨rfl, rfl, rfl, ?_, fun j hj => ?_⟩⟩
 ·simp [Sort.grow, World.drewN]
 ·show (w.heap ++ os)[j]? = w.heap[j]?
  rw [Array.getElem?_append_left hj]
end
theorem zyp (N : Nat) : zri Tryz.prog C19w 256 N zcy := by
 intro f g hg args H v hv μ w args' _ hI hl; have hg : zt3.get f = some g := hg
 unfold zt3 at hg; rw [Tr.get_set, Tr.get_set] at hg; split at hg
 ·rename_i e; subst e; cases hg; exact .inr (zt4 hI hv hl)
 ·split at hg
  ·rename_i e; subst e; cases hg; exact .inr (z3c hv hl)
  ·rw [Tr.get_leaf] at hg; cases hg
theorem sim19w (N : Nat) (hN : 6 <= N) : Sim Tryz.prog C19w 256 N zcy :=
 ⟨z5b rfl, z1z rfl, zyp N, yal _, by kernel_rfl, fun _ _ hb h => h.below hN hb⟩
theorem zx5 {C : Ctx} {f n : Nat} {args : List zab} {args' : Array Value} {w : World} (hw : zcy w) (hS : Sim Tryz.prog C 256 w.heap.size zcy) (hroot : C.root = f) (hl : zby mu0 args args'.toList)
  (h : fin (z0w C n (zlg C f args H19)) = 1) : Calls Tryz.prog f args' w fun e w' => e = .returned (.bool true) /\ Below w.heap.size w w' := by
 obtain ⟨H', hr⟩ := zzh4 h
 unfold zlg at hr; have stuck : ∀ (n k : Nat), z0w C n (.fail k) = .fail k := by
  intro n; induction n with
  | zero => intro k; rfl
  | succ n ih =>
   intro k; show z0w C n (z0w C n (.fail k)) = _
   rw [ih, ih]
 cases he : zeo C f args false with
 | none =>
  rw [he] at hr; rw [stuck] at hr
  cases hr
 | some g =>
  rw [he] at hr; refine (zw6 hS hw hroot (hrel19 hw) hl he hr).mono fun e w' ⟨v', μ', h1, _, h3, _, h5⟩ => ?_
  rw [zaq] at h3; exact ⟨by rw [h1, h3], h5⟩
theorem zzz {w : World} (hw : zcy w) : Calls Tryz.prog 14 #[] w fun e w' => e = .returned (.bool true) /\ Below w.heap.size w w' :=
 zx5 hw (sim19w _ hw.size) rfl .nil zzae
end Go.Am
namespace Go.Am
open Go Go.RowKit Go.Proofs
def zvm (C : Ctx) (n : Nat) (o : zdr) : zdr := Nat.rec (motive := fun _ => zdr) o (fun _ g => zi9 C g) n
def todoO : zdr -> List zce | .next s => s.fr.todo | _ => []
def tmO : zdr -> Tm | .next s => s.fr.tm | _ => ⟨0, .leaf, []⟩
def zmg : zdr -> zgf | .next s => s.fr.R | _ => ⟨0, 0, [], .run, false, none⟩
def csO : zdr -> List zav | .next s => s.cs | _ => []
def zhr : zdr -> zai | .next s => s.H | _ => ⟨0, .leaf⟩
def zzij : Code -> Array Oper | .seq (.region _ ops _) _ => ops | .region _ ops _ => ops | _ => #[]
def zzdp : Code -> List zce | .seq _ b => [.code b] | _ => []
def zzgz (o : zdr) : Array Oper := match todoO o with | .code c :: _ => zzij c | _ => #[]
def restO (o : zdr) : List zce := match todoO o with | .code c :: k => ziu (zzdp c) k | _ => []
def goO (C : Ctx) (o : zdr) (i : Nat) (tm : Tm) (H : zai) : zdr := zli C (zzgz o) (restO o) (zmg o) (csO o) (zjw (zzgz o).toList i) tm H
def opO (o : zdr) (i : Nat) : Option Oper := ze7 (zzgz o).toList i
def z2u (C : Ctx) (o : zdr) (i : Nat) : Tm :=
 List.rec (motive := fun _ => Tm -> Tm) (fun tm => tm) (fun p _ g tm => g (match ((aop p.op).f C (.now tm) (zhr o)).asVal with | some q => putA (zmg o).n tm p.dst q.1 | none => tm)) (zqj (zzgz o).toList i) (tmO o).cut
theorem zzhz {C : Ctx} {o : zdr} {i : Nat} {p : Oper} {tm : Tm} {H H' : zai} {v : zab} (ho : opO o i = some p) (hg : p.guard = none) (hv : ((aop p.op).f C (.now tm) H).asVal = some (v, H')) :
  goO C o i tm H = goO C o (i + 1) (putA (zmg o).n tm p.dst v) H' := by
 have hd : zjw (zzgz o).toList i = p :: zjw (zzgz o).toList (i + 1) := by
  unfold opO at ho; rw [zbh] at ho; rw [zfe, zfe]; have hlt := (yad.1 ho).1
  rw [yam hlt]; congr 1
  exact (yad.1 ho).2
 unfold goO; rw [hd, zlw]; have hw : zbd p.guard (zzgz o) tm = some true := by rw [hg]; rfl
 rw [hw]; simp only [hv]
theorem zzcj {C : Ctx} {e : Env} {H : zai} {t : Nat} {a : Operand} {b off : Nat} {ty : ATy} {c : Tr zab × Nat × Option Nat} {v : zab} (h1 : ev a e = some (.ptr b off)) (h2 : C.tys.get t = some ty) (h3 : za1 H b = some c) (h4 : znn ty c.1 off = some v) :
  ((aop (.load t a)).f C e H).asVal = some (v, H) := by
 show (lv (znp t a) C e H).asVal = _
 unfold lv znp; rw [h1, zac, show (zab.ptr b off).asPtr = some (b, off) from rfl, zac, h2, zac, h3, zac, h4]
 rfl
theorem z76 {C : Ctx} {e : Env} {H : zai} {o : Op} {l : LOp} (ha : (aop o).f = lv l) {v : zab} (h : l C e H = some v) : ((aop o).f C e H).asVal = some (v, H) := by
 rw [ha]; unfold lv; rw [h]; rfl
def atO (C : Ctx) (o : zdr) (i : Nat) (tm : Tm) (H : zai) : Option (zab × zai × Option Nat) :=
 ob (opO o i) fun p => zao (zez p.guard) (ob ((aop p.op).f C (.now tm) H).asVal fun q => some (q.1, q.2, p.dst))
theorem zwq {C : Ctx} {o : zdr} {i : Nat} {tm : Tm} {H H' : zai} {v : zab} {d : Option Nat} (h : atO C o i tm H = some (v, H', d)) : goO C o i tm H = goO C o (i + 1) (putA (zmg o).n tm d v) H' := by
 unfold atO at h; simp only [zad, zae] at h; obtain ⟨p, h1, h2, q, h3, h4⟩ := h
 cases h4; have hg : p.guard = none := by cases hx : p.guard with | none => rfl | some x => rw [hx] at h2; cases h2
 exact zzhz h1 hg h3
def zzen : Code -> Bool | .region _ _ false => true | .seq (.region _ _ false) _ => true | _ => false
def zzel : List zce -> Bool | .code c :: _ => zzen c | _ => false
def zzem : zdr -> Bool | .next s => bif s.fr.R.mode.running then zzel s.fr.todo else false | _ => false
theorem zsr {α : Type} (l : List α) : zjw l 0 = l := by rw [zfe]; rfl
theorem zzbg {C : Ctx} {o : zdr} (h : zzem o = true) : zi9 C o = goO C o 0 (tmO o).cut (zhr o) := by
 cases o with
 | next s =>
  obtain ⟨⟨todo, tm, R⟩, cs, H⟩ := s
  have h : (bif R.mode.running then zzel todo else false) = true := h
  rw [zar] at h; split at h
  case isFalse => cases h
  rename_i hr; show (bif R.mode.running then zul C todo tm R cs H else zpl C ⟨todo, tm, R⟩ cs H) = _
  rw [hr, cond_true]
  cases todo with
  | nil => cases h
  | cons x k =>
   cases x with
   | code c =>
    have h : zzen c = true := h
    cases c with
    | region id ops d =>
     cases d with
     | true => cases h
     | false => unfold goO; rw [zsr]; rfl
    | seq a b =>
     cases a with
     | region id ops d =>
      cases d with
      | true => cases h
      | false => unfold goO; rw [zsr]; rfl
     | _ => cases h
    | _ => cases h
   | _ => cases h
 | _ => cases h
def CL : Ctx := ⟨fns, ks, tys, plans, .leaf, 257, 318⟩
def HL (c : Tr zab) (n : Nat) : zai := ⟨257, Tr.set .leaf 256 (.cells c n none)⟩
def zyl : zdr -> Option zab | .done v _ => some v | _ => none
theorem z27 {o : zdr} {v : zab} (h : zyl o = some v) : ∃ H, o = .done v H := by
 cases o with
 | done u H => cases h; exact ⟨H, rfl⟩
 | _ => cases h
section
variable (c : Tr zab) (n off cap : Nat)
theorem long0 : zyl (z0w CL 6 (zlg CL 318 [.slice 256 off 0 cap] (HL c n))) = some (.int .u64 0) := by kernel_rfl
theorem longN : zyl (z0w CL 6 (zlg CL 318 [.nilslice] (HL c n))) = some (.int .u64 0) := by kernel_rfl
theorem longE : zyl (z0w CL 6 (zlg CL 318 [.slice 0 0 0 0] (HL c n))) = some (.int .u64 0) := by kernel_rfl
def l1 (len : Nat) : zdr := zvm CL 17 (zlg CL 318 [.slice 256 off len cap] (HL c n))
theorem zzcw : zi9 CL (l1 c n off cap 1) = goO CL (l1 c n off cap 1) 4 (z2u CL (l1 c n off cap 1) 4) (zhr (l1 c n off cap 1)) := by kernel_rfl
theorem zzcv : zi9 CL (l1 c n off cap 2) = goO CL (l1 c n off cap 2) 4 (z2u CL (l1 c n off cap 2) 4) (zhr (l1 c n off cap 2)) := by kernel_rfl
def ldOp : Oper -> Option (Nat × Operand) := fun o => match o.op with | .load t a => some (t, a) | _ => none
theorem l1_op1 : (match opO (l1 c n off cap 1) 4 with | some p => (ldOp p, zez p.guard, p.dst) | none => (none, false, none)) = (some (328, .tmp 14), true, some 15) := by kernel_rfl
theorem l1_ev1 : ev (.tmp 14) (.now (z2u CL (l1 c n off cap 1) 4)) = some (.ptr 256 (off + 0 * 1)) := by kernel_rfl
theorem l1_ev2 : ev (.tmp 14) (.now (z2u CL (l1 c n off cap 2) 4)) = some (.ptr 256 (off + 1 * 1)) := by kernel_rfl
theorem zzhk : za1 (zhr (l1 c n off cap 1)) 256 = some (c, n, none) := by kernel_rfl
theorem zzhj : za1 (zhr (l1 c n off cap 2)) 256 = some (c, n, none) := by kernel_rfl
theorem l1_op2 : (match opO (l1 c n off cap 2) 4 with | some p => (ldOp p, zez p.guard, p.dst) | none => (none, false, none)) = (some (328, .tmp 14), true, some 15) := by kernel_rfl
def l2 (len x : Nat) : zdr := goO CL (l1 c n off cap len) 5 (putA (zmg (l1 c n off cap len)).n (z2u CL (l1 c n off cap len) 4) (some 15) (.int .u32 (.ofNat x))) (zhr (l1 c n off cap len))
def l3 (len x : Nat) : zdr := zvm CL 3 (l2 c n off cap len x)
theorem zzcu (x : Nat) : zi9 CL (l3 c n off cap 1 x) = goO CL (l3 c n off cap 1 x) 4 (z2u CL (l3 c n off cap 1 x) 4) (zhr (l3 c n off cap 1 x)) := by kernel_rfl
theorem zzct (x : Nat) : zi9 CL (l3 c n off cap 2 x) = goO CL (l3 c n off cap 2 x) 4 (z2u CL (l3 c n off cap 2 x) 4) (zhr (l3 c n off cap 2 x)) := by kernel_rfl
def zzet : Oper -> Option (Nat × Operand × Operand) := fun o => match o.op with | .binOp .or t a b _ => some (t, a, b) | _ => none
theorem l3_op1 (x : Nat) : (match opO (l3 c n off cap 1 x) 4 with | some p => (zzet p, zez p.guard, p.dst) | none => (none, false, none)) = (some (56, .tmp 9, .tmp 11), true, some 12) := by kernel_rfl
theorem l3_op2 (x : Nat) : (match opO (l3 c n off cap 2 x) 4 with | some p => (zzet p, zez p.guard, p.dst) | none => (none, false, none)) = (some (56, .tmp 9, .tmp 11), true, some 12) := by kernel_rfl
theorem l3_or1 (x : Nat) : zwj .or 56 (.tmp 9) (.tmp 11) CL (.now (z2u CL (l3 c n off cap 1 x) 4)) (zhr (l3 c n off cap 1 x)) = ze0 Nat.lor .u64 (zah .u64 (.ofNat 0 * .ofNat 4294967296)) (zah .u64 (.ofNat x)) := by kernel_rfl
theorem l3_or2 (x : Nat) : zwj .or 56 (.tmp 9) (.tmp 11) CL (.now (z2u CL (l3 c n off cap 2 x) 4)) (zhr (l3 c n off cap 2 x)) = ze0 Nat.lor .u64 (zah .u64 (.ofNat 0 * .ofNat 4294967296)) (zah .u64 (.ofNat x)) := by kernel_rfl
def l4 (len x z : Nat) : zdr := goO CL (l3 c n off cap len x) 5 (putA (zmg (l3 c n off cap len x)).n (z2u CL (l3 c n off cap len x) 4) (some 12) (.int .u64 (.ofNat z))) (zhr (l3 c n off cap len x))
theorem l4_end (x z : Nat) : zyl (z0w CL 6 (l4 c n off cap 1 x z)) = some (.int .u64 (.ofNat z)) := by kernel_rfl
def l5 (y z : Nat) : zdr := zvm CL 12 (l4 c n off cap 2 y z)
theorem zzhi (y z : Nat) : zi9 CL (l5 c n off cap y z) = goO CL (l5 c n off cap y z) 4 (z2u CL (l5 c n off cap y z) 4) (zhr (l5 c n off cap y z)) := by kernel_rfl
theorem l5_op (y z : Nat) : (match opO (l5 c n off cap y z) 4 with | some p => (ldOp p, zez p.guard, p.dst) | none => (none, false, none)) = (some (328, .tmp 14), true, some 15) := by kernel_rfl
theorem l5_ev (y z : Nat) : ev (.tmp 14) (.now (z2u CL (l5 c n off cap y z) 4)) = some (.ptr 256 (off + 0 * 1)) := by kernel_rfl
theorem l5_blk (y z : Nat) : za1 (zhr (l5 c n off cap y z)) 256 = some (c, n, none) := by kernel_rfl
def l6 (y z x : Nat) : zdr := goO CL (l5 c n off cap y z) 5 (putA (zmg (l5 c n off cap y z)).n (z2u CL (l5 c n off cap y z) 4) (some 15) (.int .u32 (.ofNat x))) (zhr (l5 c n off cap y z))
def l7 (y z x : Nat) : zdr := zvm CL 3 (l6 c n off cap y z x)
theorem zzcs (y z x : Nat) : zzem (l7 c n off cap y z x) = true := by kernel_rfl
def zzbr : Oper -> Option (Nat × Operand × Operand) := fun o => match o.op with | .binOp .shl t a k _ => some (t, a, k) | _ => none
def tA (y z x : Nat) : Tm := putA (zmg (l7 c n off cap y z x)).n (tmO (l7 c n off cap y z x)).cut (some 8) (.int .u64 (.ofNat z))
theorem l7_0 (y z x : Nat) : atO CL (l7 c n off cap y z x) 0 (tmO (l7 c n off cap y z x)).cut (zhr (l7 c n off cap y z x)) = some (.int .u64 (.ofNat z), zhr (l7 c n off cap y z x), some 8) := by kernel_rfl
theorem l7_opS (y z x : Nat) : (match opO (l7 c n off cap y z x) 1 with | some p => (zzbr p, zez p.guard, p.dst) | none => (none, false, none)) = (some (56, .tmp 8, .const (.int .u64 32)), true, some 9) := by kernel_rfl
theorem l7_evS (y z x : Nat) : ev (.tmp 8) (.now (tA c n off cap y z x)) = some (.int .u64 (.ofNat z)) := by kernel_rfl
def tB (y z x s : Nat) : Tm := putA (zmg (l7 c n off cap y z x)).n (tA c n off cap y z x) (some 9) (.int .u64 (.ofNat s))
theorem l7_2 (y z x s : Nat) : atO CL (l7 c n off cap y z x) 2 (tB c n off cap y z x s) (zhr (l7 c n off cap y z x)) = some (.int .u32 (.ofNat x), zhr (l7 c n off cap y z x), some 10) := by kernel_rfl
def tC (y z x s : Nat) : Tm := putA (zmg (l7 c n off cap y z x)).n (tB c n off cap y z x s) (some 10) (.int .u32 (.ofNat x))
theorem l7_3 (y z x s : Nat) : atO CL (l7 c n off cap y z x) 3 (tC c n off cap y z x s) (zhr (l7 c n off cap y z x)) = some (.int .u64 (zah .u64 (.ofNat x)), zhr (l7 c n off cap y z x), some 11) := by kernel_rfl
def tD (y z x s x' : Nat) : Tm := putA (zmg (l7 c n off cap y z x)).n (tC c n off cap y z x s) (some 11) (.int .u64 (.ofNat x'))
theorem l7_op (y z x : Nat) : (match opO (l7 c n off cap y z x) 4 with | some p => (zzet p, zez p.guard, p.dst) | none => (none, false, none)) = (some (56, .tmp 9, .tmp 11), true, some 12) := by kernel_rfl
theorem l7_ev9 (y z x s x' : Nat) : ev (.tmp 9) (.now (tD c n off cap y z x s x')) = some (.int .u64 (.ofNat s)) := by kernel_rfl
theorem zzhh (y z x s x' : Nat) : ev (.tmp 11) (.now (tD c n off cap y z x s x')) = some (.int .u64 (.ofNat x')) := by kernel_rfl
def l8 (y z x s x' u : Nat) : zdr := goO CL (l7 c n off cap y z x) 5 (putA (zmg (l7 c n off cap y z x)).n (tD c n off cap y z x s x') (some 12) (.int .u64 (.ofNat u))) (zhr (l7 c n off cap y z x))
theorem l8_end (y z x s x' u : Nat) : zyl (z0w CL 6 (l8 c n off cap y z x s x' u)) = some (.int .u64 (.ofNat u)) := by kernel_rfl
theorem zep : CL.tys.get 328 = some ⟨.int .u32, 1, 4, [.int .u32 0], true⟩ := by kernel_rfl
end
end Go.Am
namespace Go.Am
open Go Go.RowKit
@[simp] theorem zaz {α : Type} {x : Option α} : zao true x = x := rfl
inductive D where
 | int (k : IntKind) (n : Int)
 | bool (b : Bool)
 | str (s : List Nat)
 | sl (sz : Nat) (l : List D)
 | st (l : List D)
def At (t : Tr zal) (b off : Nat) (cs : List zab) : Prop := ∃ c n lo, t.get b = some (.cells c n lo) /\ ∀ (j : Nat) a, cs[j]? = some a -> c.get (off + j) = some a
def zhn (t : Tr zal) (sz : Nat) (v : zab) (cl : List (List zab)) : Prop :=
 (v = .nilslice /\ cl = []) \/ ∃ b off cap, v = .slice b off cl.length cap /\ cl.length <= cap /\ (∃ c n lo, t.get b = some (.cells c n lo) /\ (lo = none \/ lo = some sz)) /\ ∀ (i : Nat) cs, cl[i]? = some cs -> cs.length = sz /\ At t b (off + i * sz) cs
mutual
/-- cells read as data -/
def RD (t : Tr zal) : D -> List zab -> Prop
 | .int k n, cs => cs = [.int k n]
 | .bool b, cs => cs = [.bool b]
 | .str s, cs => cs = [.str s]
 | .sl sz l, cs => ∃ a cl, cs = [a] /\ zhn t sz a cl /\ RDs t l cl
 | .st l, cs => ∃ cl, cs = cl.flatten /\ RDs t l cl
def RDs (t : Tr zal) : List D -> List (List zab) -> Prop
 | [], cl => cl = []
 | d :: l, cl => ∃ c r, cl = c :: r /\ RD t d c /\ RDs t l r
end
def TLe (t t' : Tr zal) : Prop := ∀ b y, t.get b = some y -> t'.get b = some y
theorem TLe.refl (t : Tr zal) : TLe t t := fun _ _ h => h
theorem TLe.trans {a b c : Tr zal} (h : TLe a b) (k : TLe b c) : TLe a c := fun x y e => k x y (h x y e)
section
variable {t t' : Tr zal} {C : Ctx}
theorem At.mono (h : TLe t t') {b off : Nat} {cs : List zab} (k : At t b off cs) : At t' b off cs := by
 obtain ⟨c, n, lo, h1, h2⟩ := k; exact ⟨c, n, lo, h _ _ h1, h2⟩
theorem zhn.mono (h : TLe t t') {sz : Nat} {v : zab} {cl : List (List zab)} (k : zhn t sz v cl) : zhn t' sz v cl := by
 rcases k with k | ⟨b, off, cap, h1, h3, ⟨c, n, lo, h4, h5⟩, h2⟩
 ·exact .inl k
 ·exact .inr ⟨b, off, cap, h1, h3, ⟨c, n, lo, h _ _ h4, h5⟩, fun i cs hi => ⟨(h2 i cs hi).1, (h2 i cs hi).2.mono h⟩⟩
mutual
theorem RD.mono (h : TLe t t') : ∀ (d : D) (cs : List zab), RD t d cs -> RD t' d cs
 | .int _ _, _, k => k
 | .bool _, _, k => k
 | .str _, _, k => k
 | .sl _ l, _, ⟨a, cl, h1, h2, h3⟩ => ⟨a, cl, h1, h2.mono h, RDs.mono h l cl h3⟩
 | .st l, _, ⟨cl, h1, h2⟩ => ⟨cl, h1, RDs.mono h l cl h2⟩
theorem RDs.mono (h : TLe t t') : ∀ (l : List D) (cl : List (List zab)), RDs t l cl -> RDs t' l cl
 | [], _, k => k
 | d :: l, _, ⟨c, r, h1, h2, h3⟩ => ⟨c, r, h1, RD.mono h d c h2, RDs.mono h l r h3⟩
end
theorem RDs.length : ∀ {l : List D} {cl : List (List zab)}, RDs t l cl -> cl.length = l.length := by
 intro l; induction l with
 | nil => intro cl h; rw [RDs] at h; simp [h]
 | cons d l ih => intro cl h; rw [RDs] at h; obtain ⟨c, r, rfl, _, h3⟩ := h; simp [ih h3]
theorem RDs.get : ∀ {l : List D} {cl : List (List zab)} {i : Nat} {d : D}, RDs t l cl -> l[i]? = some d -> ∃ cs, cl[i]? = some cs /\ RD t d cs := by
 intro l; induction l with
 | nil => intro cl i d _ h; simp at h
 | cons e l ih =>
  intro cl i d h hi; rw [RDs] at h; obtain ⟨c, r, rfl, h2, h3⟩ := h
  cases i with
  | zero => simp at hi; subst hi; exact ⟨c, by simp, h2⟩
  | succ i => simp at hi; obtain ⟨cs, h4, h5⟩ := ih h3 hi; exact ⟨cs, by simpa using h4, h5⟩
theorem RDs.mk : ∀ {l : List D} {cl : List (List zab)}, cl.length = l.length -> (∀ (i : Nat) d cs, l[i]? = some d -> cl[i]? = some cs -> RD t d cs) -> RDs t l cl := by
 intro l; induction l with
 | nil => intro cl h _; rw [RDs]; simpa using h
 | cons e l ih =>
  intro cl h k
  cases cl with
  | nil => simp at h
  | cons c r =>
   rw [RDs]; exact ⟨c, r, rfl, k 0 e c (by simp) (by simp), ih (by simpa using h) fun i d cs h1 h2 => k (i + 1) d cs (by simpa using h1) (by simpa using h2)⟩
@[simp] theorem zgk {k : IntKind} {n : Int} {cs : List zab} : RD t (.int k n) cs ↔ cs = [.int k n] := Iff.rfl
@[simp] theorem zih {b : Bool} {cs : List zab} : RD t (.bool b) cs ↔ cs = [.bool b] := Iff.rfl
@[simp] theorem zkn {s : List Nat} {cs : List zab} : RD t (.str s) cs ↔ cs = [.str s] := Iff.rfl
def RSl (t : Tr zal) (sz : Nat) (l : List D) (v : zab) : Prop := ∃ cl, zhn t sz v cl /\ RDs t l cl
theorem RSl.mono (h : TLe t t') {sz : Nat} {l : List D} {v : zab} (k : RSl t sz l v) : RSl t' sz l v := by
 obtain ⟨cl, h1, h2⟩ := k; exact ⟨cl, h1.mono h, RDs.mono h _ _ h2⟩
theorem zk9 {sz : Nat} {l : List D} {cs : List zab} : RD t (.sl sz l) cs ↔ ∃ v, cs = [v] /\ RSl t sz l v := by
 rw [RD]; constructor
 ·rintro ⟨a, cl, rfl, h1, h2⟩; exact ⟨a, rfl, cl, h1, h2⟩
 ·rintro ⟨a, rfl, cl, h1, h2⟩; exact ⟨a, cl, rfl, h1, h2⟩
theorem zig {l : List D} {cs : List zab} : RD t (.st l) cs ↔ ∃ cl, cs = cl.flatten /\ RDs t l cl := by rw [RD]
theorem zbv {cl : List (List zab)} : RDs t [] cl ↔ cl = [] := by rw [RDs]
theorem zbc {d : D} {l : List D} {cl : List (List zab)} : RDs t (d :: l) cl ↔ ∃ c r, cl = c :: r /\ RD t d c /\ RDs t l r := by rw [RDs]
theorem RSl.one {sz : Nat} {l : List D} {v : zab} (h : RSl t sz l v) : zab.one v = true := by
 obtain ⟨cl, h1, _⟩ := h
 rcases h1 with ⟨rfl, _⟩ | ⟨b, off, cap, rfl, _⟩
 ·decide
 ·rfl
theorem RSl.len {sz : Nat} {l : List D} {v : zab} (h : RSl t sz l v) : zba v = some (.int .i64 (l.length : Int)) := by
 obtain ⟨cl, h1, h2⟩ := h
 have := h2.length
 rcases h1 with ⟨rfl, rfl⟩ | ⟨b, off, cap, rfl, _⟩
 ·have : l.length = 0 := this.symm
  rw [this]; rfl
 ·rw [<- this]; rfl
theorem RSl.same {sz d : Nat} {l : List D} {v : zab} (h : RSl t sz l v) : same d v v = true := by
 obtain ⟨cl, h1, _⟩ := h
 rcases h1 with ⟨rfl, _⟩ | ⟨b, off, cap, rfl, _⟩
 ·cases d <;> (unfold Am.same; rfl)
 ·have e : ∀ n, Nat.beq n n = true := Nat.beq_refl
  cases d <;> (unfold Am.same; simp only [e, Bool.and_self])
theorem zbi {sz : Nat} {l : List D} {v : zab} (h : RSl t sz l v) : zj1 .nilslice v = true := by
 obtain ⟨cl, h1, _⟩ := h
 rcases h1 with ⟨rfl, _⟩ | ⟨b, off, cap, rfl, _⟩ <;> rfl
theorem At.load {b off j n : Nat} {cs : List zab} (h : At t b off cs) {ty : Nat} {y : ATy} (hy : C.tys.get ty = some y) (ha : y.desc.isAgg = true) (hn : y.size = n) (hj : j + n <= cs.length) : zap C ty ⟨0, t⟩ (.ptr b (off + j)) = some (.agg ((cs.drop j).take n)) := by
 obtain ⟨c, m, lo, h1, h2⟩ := h
 unfold zap; simp only [zab.asPtr, zac]; rw [hy, zac]; unfold za1; rw [h1, zac]; simp only [zal.asCells, zac]; unfold znn; rw [ha, cond_true, hn]; have key : ∀ (n j : Nat), j + n <= cs.length -> c.many n (off + j) = some ((cs.drop j).take n) := by
  intro n; induction n with
  | zero => intro j _; simp; rfl
  | succ n ih =>
   intro j hj; have hlt : j < cs.length := by omega
   rw [Tr.many_succ, h2 j cs[j] (yae hlt), zac, show off + j + 1 = off + (j + 1) by omega, ih (j + 1) (by omega), zac, yam hlt, List.take_succ_cons]
 rw [key n j hj]; rfl
theorem At.load1 {b off j : Nat} {cs : List zab} {a : zab} (h : At t b off cs) {ty : Nat} {y : ATy} (hy : C.tys.get ty = some y) (ha : y.desc.isAgg = false) (hj : cs[j]? = some a) : zap C ty ⟨0, t⟩ (.ptr b (off + j)) = some a := by
 obtain ⟨c, m, lo, h1, h2⟩ := h
 unfold zap; simp only [zab.asPtr, zac]; rw [hy, zac]; unfold za1; rw [h1, zac]; simp only [zal.asCells, zac]; unfold znn; rw [ha, cond_false]; exact h2 j a hj
structure zjo (C : Ctx) (T el sz : Nat) (agg : Bool) : Prop where
 ty : ∃ y, C.tys.get T = some y /\ y.desc.asSlice = some el
 el : ∃ y, C.tys.get el = some y /\ y.size = sz /\ y.desc.isAgg = agg
def zr2 (agg : Bool) (cs : List zab) : zab := if agg then .agg cs else match cs with | a :: _ => a | [] => .nilptr
theorem zjo.at {T el sz : Nat} {agg : Bool} (h : zjo C T el sz agg) (h1 : agg = false -> sz = 1) {l : List D} {v : zab} (hr : RSl t sz l v) {i : Nat} {d : D} (hi : l[i]? = some d) :
  ∃ b off cs, zaf C T v (.int .i64 (i : Int)) = some (.ptr b off) /\ zap C el ⟨0, t⟩ (.ptr b off) = some (zr2 agg cs) /\ At t b off cs /\ cs.length = sz /\ RD t d cs := by
 obtain ⟨⟨y, hy1, hy2⟩, ⟨z, hz1, hz2, hz3⟩⟩ := h
 obtain ⟨cl, he, hd⟩ := hr
 obtain ⟨cs, hc, hrd⟩ := hd.get hi
 rcases he with ⟨rfl, rfl⟩ | ⟨b, off, cap, rfl, _, _, he⟩
 ·simp at hc
 ·obtain ⟨hl, ha⟩ := he i cs hc
  have hlt : i < cl.length := (yad.1 hc).1
  refine ⟨b, off + i * sz, cs, ?_, ?_, ha, hl, hrd⟩
  ·unfold zaf
   rw [hy1, zac]; have : (zab.int .i64 (i : Int)).asNat = some i := rfl
   rw [this, zac]; simp only [zab.asSlice]; rw [hy2, zac, hz1, zac, zdl.2 hlt, hz2]; rfl
  ·cases agg with
   | true =>
    have := ha.load (j := 0) hz1 hz3 hz2 (by omega)
    simp only [Nat.add_zero, List.drop_zero] at this; rw [this, <- hl, List.take_length]; rfl
   | false =>
    have hs := h1 rfl
    cases cs with
    | nil => simp at hl; omega
    | cons a r =>
     have := ha.load1 (j := 0) (a := a) hz1 hz3 (by simp)
     rw [Nat.add_zero] at this; rw [this]; rfl
end
section
variable {t : Tr zal} {C : Ctx}
theorem zjo.front {T el sz : Nat} {agg : Bool} (h : zjo C T el sz agg) {l : List D} {v : zab} (hr : RSl t sz l v) {k : Nat} (hk : k <= l.length) :
  ∃ v', zen C T ⟨0, t⟩ v none (some (.int .i64 (k : Int))) = some v' /\ RSl t sz (l.take k) v' := by
 obtain ⟨⟨y, hy1, hy2⟩, ⟨z, hz1, hz2, hz3⟩⟩ := h
 obtain ⟨cl, he, hd⟩ := hr
 have hlen := hd.length
 unfold zen; rw [hy1, zac]; have hb : ∀ y, zq5 y (.int .i64 (k : Int)) = zao (Nat.ble k y) (some k) := fun y => rfl
 rcases he with ⟨rfl, rfl⟩ | ⟨b, off, cap, rfl, hcap, ⟨c, n, lo, hg, hlo⟩, he⟩
 ·have : k = 0 := by simp at hlen; omega
  subst this; refine ⟨.nilslice, ?_, [], .inl ⟨rfl, rfl⟩, by simp [RDs]⟩
  unfold zhy; simp only [zab.asStr, zab.asSlice, zab.asPtr]; rw [hy2, zac, hz1, zac]; rfl
 ·refine ⟨.slice b off k cap, ?_, cl.take k, .inr ⟨b, off, cap, ?_, ?_, ⟨c, n, lo, hg, hlo⟩, fun i cs hi => ?_⟩, ?_⟩
  ·unfold zhy
   simp only [zab.asStr, zab.asSlice]; rw [hy2, zac]; unfold zd6; rw [hz1, zac]; unfold zhp zxc; simp only [hb]; rw [show Nat.ble k cap = true from zj2.2 (by omega)]
   simp only [zaz, zac]; have hf : zcw ⟨0, t⟩ b z.size cap 0 false = true := by
    unfold zcw za1; rw [hg, zac]; simp only [zal.asCells]; rcases hlo with rfl | rfl
    ·rfl
    ·simp [hz2]
   rw [show Nat.ble k cap = true from zj2.2 (by omega), hf]
   simp only [Bool.and_self, zaz]; congr 1
   cases hq : Nat.beq cap 0 <;> simp
  ·rw [List.length_take]; congr 1; omega
  ·rw [List.length_take]; omega
  ·rw [List.getElem?_take] at hi
   split at hi
   ·exact he i cs hi
   ·cases hi
  ·refine RDs.mk (by rw [List.length_take, List.length_take]; omega) fun i d cs h1 h2 => ?_
   rw [List.getElem?_take] at h1 h2; split at h1
   ·rename_i e
    rw [if_pos e] at h2; obtain ⟨cs', h3, h4⟩ := hd.get h1
    rw [h3] at h2; cases h2; exact h4
   ·cases h1
end
mutual
def D.zs : D -> List zab
 | .int k _ => [.int k 0]
 | .bool _ => [.bool false]
 | .str _ => [.str []]
 | .sl _ _ => [.nilslice]
 | .st l => D.zss l
def D.zss : List D -> List zab
 | [] => []
 | d :: l => d.zs ++ D.zss l
end
theorem zwr : ∀ (z z' l l' : List zab), zmv z l = true -> zmv z' l' = true -> zmv (z ++ z') (l ++ l') = true
 | [], _, [], _, _, h => h
 | a :: z, z', b :: l, l', h, k => by
  unfold zmv at h; rw [yac] at h; show (zj1 a b && zmv (z ++ z') (l ++ l')) = true
  rw [h.1, zwr z z' l l' h.2 k]; rfl
 | [], _, _ :: _, _, h, _ => by cases h
 | _ :: _, _, [], _, h, _ => by cases h
mutual
theorem z9g {t : Tr zal} : ∀ (d : D) (cs : List zab), RD t d cs -> zmv d.zs cs = true
 | .int k n, cs, h => by
  rw [RD] at h; subst h; show (zj1 (.int k 0) (.int k n) && true) = true
  simp only [zj1, zab.asIntK, Bool.and_true]; exact ze3.2 rfl
 | .bool _, cs, h => by rw [RD] at h; subst h; rfl
 | .str _, cs, h => by rw [RD] at h; subst h; rfl
 | .sl sz l, cs, h => by
  rw [zk9] at h; obtain ⟨v, rfl, h⟩ := h
  show (zj1 .nilslice v && true) = true
  rw [zbi h]; rfl
 | .st l, cs, h => by
  rw [zig] at h; obtain ⟨cl, rfl, h⟩ := h
  show zmv (D.zss l) cl.flatten = true
  exact z11 l cl h
theorem z11 {t : Tr zal} : ∀ (l : List D) (cl : List (List zab)), RDs t l cl -> zmv (D.zss l) cl.flatten = true
 | [], cl, h => by rw [RDs] at h; subst h; rfl
 | d :: l, cl, h => by
  rw [RDs] at h; obtain ⟨c, r, rfl, h1, h2⟩ := h
  show zmv (d.zs ++ D.zss l) (c :: r).flatten = true
  rw [List.flatten_cons]; exact zwr _ _ _ _ (z9g d c h1) (z11 l r h2)
end
theorem zag {k : IntKind} {n : Int} : zzcz k (.int k n) = some n := by unfold zzcz; simp only [zab.asIntK, zac]; rw [ze3.2 rfl]; rfl
theorem zax {b : Bool} : (zab.bool b).asBool = some b := rfl
theorem zca {s : List Nat} : (zab.str s).asStr = some s := rfl
theorem zfa {d : Nat} {k : IntKind} {n : Int} : same d (.int k n) (.int k n) = true := by
 cases d <;> simp [same, ze3, zji]
theorem z6p {d : Nat} {b : Bool} : same d (.bool b) (.bool b) = true := by cases d <;> simp [same, zon]
theorem zo2 {d : Nat} {s : List Nat} : same d (.str s) (.str s) = true := by cases d <;> simp [same, zfi]
theorem zak {n : Int} (h1 : -9223372036854775808 <= n) (h2 : n < 9223372036854775808) : zah .i64 n = n := by
 rw [zc6]; simp only [IntKind.wrap, IntKind.bits, IntKind.signed]; simp; omega
theorem zkm {t : Tr zal} {d : D} {cs zs : List zab} (h : RD t d cs) (hz : d.zs = zs) : zrc zs (.agg cs) = some (cellsOf cs) := by
 unfold zrc; simp only [zab.asAgg, zac]; rw [<- hz, z9g d cs h]; rfl
theorem zhq {zs l : List zab} (h : zmv zs l = true) : zrc zs (.agg l) = some (cellsOf l) := by
 unfold zrc; simp only [zab.asAgg, zac, h]; rfl
end Go.Am
namespace Go.Am
open Go Go.RowKit
def zd2 (l : List Nat) : List D := l.map fun (n : Nat) => D.int .u16 (n : Int)
theorem zjl (l : List Nat) : (zd2 l).length = l.length := by simp [zd2]
structure zdq where
 neg : Bool
 limbs : List Nat
def zdq.d (w : zdq) : D := .st [.bool w.neg, .sl 1 (zd2 w.limbs)]
structure zem where
 n : zdq
 d : zdq
def zem.dd (f : zem) : D := .st [f.n.d, f.d.d]
structure zcg where
 kind : Nat
 f : zem
 i : Int
def zcg.d (v : zcg) : D := .st [.int .u8 v.kind, v.f.dd, .int .i64 v.i]
inductive zam where
 | mk (op : Nat) (name : List Nat) (v : zcg) (args : List zam)
def zam.op : zam -> Nat | .mk o _ _ _ => o
def zam.name : zam -> List Nat | .mk _ n _ _ => n
def zam.v : zam -> zcg | .mk _ _ v _ => v
def zam.args : zam -> List zam | .mk _ _ _ a => a
mutual
def zam.d : zam -> D
 | .mk op name v args => .st [.int .u8 op, .str name, v.d, .sl 9 (zam.ds args)]
def zam.ds : List zam -> List D
 | [] => []
 | x :: l => x.d :: zam.ds l
end
theorem zam.ds_eq (l : List zam) : zam.ds l = l.map zam.d := by
 induction l with
 | nil => rfl
 | cons x l ih => simp [zam.ds, ih]
structure zhs where
 a : Int
 b : Int
 known : Int
 f : zem
def zhs.d (r : zhs) : D := .st [.int .i64 r.a, .int .i64 r.b, .int .i64 r.known, r.f.dd]
structure zb9 where
 name : List Nat
 two : Bool
 rows : List zhs
def zb9.d (x : zb9) : D := .st [.str x.name, .bool x.two, .sl 7 (x.rows.map zhs.d)]
structure zxp where
 name : List Nat
 kind : Nat
 fact : Bool
def zxp.d (x : zxp) : D := .st [.str x.name, .int .u8 x.kind, .bool x.fact]
structure za4 where
 name : List Nat
 label : List Nat
 from_ : Int
 to : Int
 known : Int
 off : Bool
 when_ : zam
 then_ : zam
def za4.d (x : za4) : D := .st [.str x.name, .str x.label, .int .i64 x.from_, .int .i64 x.to, .int .i64 x.known, .bool x.off, x.when_.d, x.then_.d]
structure zi6 where
 name : List Nat
 defs : List zxp
 tables : List zb9
 clauses : List za4
def zi6.d (x : zi6) : D := .st [.str x.name, .sl 3 (x.defs.map zxp.d), .sl 3 (x.tables.map zb9.d), .sl 24 (x.clauses.map za4.d)]
section
variable {t : Tr zal} {cs : List zab}
theorem ztz {w : zdq} (h : RD t w.d cs) : ∃ v, cs = [.bool w.neg, v] /\ RSl t 1 (zd2 w.limbs) v := by
 unfold zdq.d at h; simp only [zig, zbc, zbv, zk9, zih] at h; obtain ⟨cl, rfl, c, r, rfl, rfl, c', r', rfl, ⟨v, rfl, h⟩, rfl⟩ := h
 exact ⟨v, rfl, h⟩
theorem z6y {f : zem} (h : RD t f.dd cs) : ∃ u v, cs = [.bool f.n.neg, u, .bool f.d.neg, v] /\ RSl t 1 (zd2 f.n.limbs) u /\ RSl t 1 (zd2 f.d.limbs) v := by
 unfold zem.dd at h; simp only [zig, zbc, zbv] at h; obtain ⟨cl, rfl, c, r, rfl, h1, c', r', rfl, h2, rfl⟩ := h
 obtain ⟨u, rfl, h3⟩ := ztz h1
 obtain ⟨v, rfl, h4⟩ := ztz h2
 exact ⟨u, v, rfl, h3, h4⟩
theorem zzep {v : zcg} (h : RD t v.d cs) : ∃ a b, cs = [.int .u8 v.kind, .bool v.f.n.neg, a, .bool v.f.d.neg, b, .int .i64 v.i] /\ RSl t 1 (zd2 v.f.n.limbs) a /\ RSl t 1 (zd2 v.f.d.limbs) b := by
 unfold zcg.d at h; simp only [zig, zbc, zbv, zgk] at h; obtain ⟨cl, rfl, c, r, rfl, rfl, c', r', rfl, h2, c'', r'', rfl, rfl, rfl⟩ := h
 obtain ⟨a, b, rfl, h3, h4⟩ := z6y h2
 exact ⟨a, b, rfl, h3, h4⟩
theorem zhe {x : zam} (h : RD t x.d cs) : ∃ a b c, cs = [.int .u8 x.op, .str x.name, .int .u8 x.v.kind, .bool x.v.f.n.neg, a, .bool x.v.f.d.neg, b, .int .i64 x.v.i, c] ∧
  RSl t 1 (zd2 x.v.f.n.limbs) a /\ RSl t 1 (zd2 x.v.f.d.limbs) b /\ RSl t 9 (x.args.map zam.d) c := by
 obtain ⟨op, name, v, args⟩ := x
 unfold zam.d at h; rw [zam.ds_eq] at h; simp only [zig, zbc, zbv, zgk, zkn, zk9] at h; obtain ⟨cl, rfl, c, r, rfl, rfl, c', r', rfl, rfl, c'', r'', rfl, hv, c3, r3, rfl, ⟨w, rfl, h4⟩, rfl⟩ := h
 obtain ⟨a, b, rfl, h5, h6⟩ := zzep hv
 exact ⟨a, b, w, rfl, h5, h6, h4⟩
theorem z01 {r : zhs} (h : RD t r.d cs) : ∃ a b, cs = [.int .i64 r.a, .int .i64 r.b, .int .i64 r.known, .bool r.f.n.neg, a, .bool r.f.d.neg, b] /\ RSl t 1 (zd2 r.f.n.limbs) a /\ RSl t 1 (zd2 r.f.d.limbs) b := by
 unfold zhs.d at h; simp only [zig, zbc, zbv, zgk] at h; obtain ⟨cl, rfl, c, r, rfl, rfl, c', r', rfl, rfl, c'', r'', rfl, rfl, c3, r3, rfl, hf, rfl⟩ := h
 obtain ⟨a, b, rfl, h3, h4⟩ := z6y hf
 exact ⟨a, b, rfl, h3, h4⟩
theorem zo3 {x : zb9} (h : RD t x.d cs) : ∃ a, cs = [.str x.name, .bool x.two, a] /\ RSl t 7 (x.rows.map zhs.d) a := by
 unfold zb9.d at h; simp only [zig, zbc, zbv, zkn, zih, zk9] at h; obtain ⟨cl, rfl, c, r, rfl, rfl, c', r', rfl, rfl, c'', r'', rfl, ⟨a, rfl, h⟩, rfl⟩ := h
 exact ⟨a, rfl, h⟩
theorem rd_def {x : zxp} (h : RD t x.d cs) : cs = [.str x.name, .int .u8 x.kind, .bool x.fact] := by
 unfold zxp.d at h; simp only [zig, zbc, zbv, zkn, zih, zgk] at h; obtain ⟨cl, rfl, c, r, rfl, rfl, c', r', rfl, rfl, c'', r'', rfl, rfl, rfl⟩ := h
 rfl
def zex (x : zam) (a b c : zab) : List zab := [.int .u8 x.op, .str x.name, .int .u8 x.v.kind, .bool x.v.f.n.neg, a, .bool x.v.f.d.neg, b, .int .i64 x.v.i, c]
theorem zp7 {x : za4} (h : RD t x.d cs) : ∃ a b c a' b' c', cs = [.str x.name, .str x.label, .int .i64 x.from_, .int .i64 x.to, .int .i64 x.known, .bool x.off] ++ zex x.when_ a b c ++ zex x.then_ a' b' c' ∧
  RD t x.when_.d (zex x.when_ a b c) /\ RD t x.then_.d (zex x.then_ a' b' c') := by
 unfold za4.d at h; simp only [zig, zbc, zbv, zkn, zih, zgk] at h; obtain ⟨cl, rfl, c1, r1, rfl, rfl, c2, r2, rfl, rfl, c3, r3, rfl, rfl, c4, r4, rfl, rfl, c5, r5, rfl, rfl, c6, r6, rfl, rfl, c7, r7, rfl, h7, c8, r8, rfl, h8, rfl⟩ := h
 obtain ⟨a, b, c, e1, _⟩ := zhe h7
 obtain ⟨a', b', c', e2, _⟩ := zhe h8
 subst e1 e2
 exact ⟨a, b, c, a', b', c', rfl, h7, h8⟩
theorem zp6 {x : zi6} (h : RD t x.d cs) : ∃ a b c, cs = [.str x.name, a, b, c] /\ RSl t 3 (x.defs.map zxp.d) a /\ RSl t 3 (x.tables.map zb9.d) b /\ RSl t 24 (x.clauses.map za4.d) c := by
 unfold zi6.d at h; simp only [zig, zbc, zbv, zkn, zk9] at h; obtain ⟨cl, rfl, c1, r1, rfl, rfl, c2, r2, rfl, ⟨a, rfl, h1⟩, c3, r3, rfl, ⟨b, rfl, h2⟩, c4, r4, rfl, ⟨c, rfl, h3⟩, rfl⟩ := h
 exact ⟨a, b, c, rfl, h1, h2, h3⟩
end
theorem zdq.zs (x : zdq) : x.d.zs = [.bool false, .nilslice] := rfl
theorem zcg.zs (x : zcg) : x.d.zs = [.int .u8 0, .bool false, .nilslice, .bool false, .nilslice, .int .i64 0] := rfl
theorem zam.zs (x : zam) : x.d.zs = [.int .u8 0, .str [], .int .u8 0, .bool false, .nilslice, .bool false, .nilslice, .int .i64 0, .nilslice] := by cases x; rfl
theorem zhs.zs (x : zhs) : x.d.zs = [.int .i64 0, .int .i64 0, .int .i64 0, .bool false, .nilslice, .bool false, .nilslice] := rfl
theorem zb9.zs (x : zb9) : x.d.zs = [.str [], .bool false, .nilslice] := rfl
theorem za4.zs (x : za4) : x.d.zs = [.str [], .str [], .int .i64 0, .int .i64 0, .int .i64 0, .bool false, .int .u8 0, .str [], .int .u8 0, .bool false, .nilslice, .bool false, .nilslice, .int .i64 0, .nilslice, .int .u8 0, .str [], .int .u8 0, .bool false, .nilslice, .bool false, .nilslice, .int .i64 0, .nilslice] := by
 obtain ⟨_, _, _, _, _, _, w, v⟩ := x; cases w; cases v; rfl
def zh0 (f : zem) : Nat := 1 + f.n.limbs.length + f.d.limbs.length
mutual
/-- the size, as it is counted up to a limit -/
def zeh : zam -> Int -> Int
 | .mk _ name v args, left => zgp args left (zh0 v.f + (name.length : Int) / 30)
def zgp : List zam -> Int -> Int -> Int
 | [], _, n => n
 | x :: l, left, n => if n <= left then zgp l left (n + zeh x (left - n)) else n
end
def zf9 : Nat := 1125899906842624
def zem.ok (f : zem) : Prop := f.n.limbs.length < zf9 /\ f.d.limbs.length < zf9
mutual
def zam.ok : zam -> Prop
 | .mk _ name v args => name.length < zf9 /\ v.f.ok /\ args.length < zf9 /\ zam.oks args
def zam.oks : List zam -> Prop
 | [] => True
 | x :: l => x.ok /\ zam.oks l
end
end Go.Am
namespace Go.Am
open Go Go.RowKit
theorem zhb {f : zem} (h : f.ok) : zh0 f < 4503599627370496 := by
 unfold zem.ok zf9 at h; unfold zh0; omega
mutual
theorem zja : ∀ (x : zam) (left : Int), x.ok -> 0 <= zeh x left /\ zeh x left <= max left 0 + 9007199254740992
 | .mk op name v args, left, h => by
  unfold zam.ok at h; obtain ⟨h1, h2, _, h4⟩ := h
  have hf := zhb h2
  unfold zf9 at h1; unfold zeh; have := zpy args left (zh0 v.f + (name.length : Int) / 30) h4 (by omega)
  omega
theorem zpy : ∀ (l : List zam) (left n : Int), zam.oks l -> 0 <= n -> n <= zgp l left n /\ zgp l left n <= max n (left + 9007199254740992)
 | [], left, n, _, _ => by unfold zgp; omega
 | x :: l, left, n, h, hn => by
  unfold zam.oks at h; unfold zgp; split
  ·have h1 := zja x (left - n) h.1
   have h2 := zpy l left (n + zeh x (left - n)) h.2 (by omega)
   omega
  ·omega
end
theorem zat {a b : Int} : (iLt a b = true) ↔ a < b := zqs a b
theorem zda {a b : Int} : (iLe a b = true) ↔ a <= b := zza a b
theorem zk3 {α : Type} {l : List α} {i : Nat} {x : α} {r : List α} (h : l.drop i = x :: r) : l[i]? = some x /\ l.drop (i + 1) = r /\ i < l.length := by
 have h1 : (l.drop i)[0]? = some x := by rw [h]; rfl
 rw [List.getElem?_drop] at h1; have hi : i < l.length := by
  rcases Nat.lt_or_ge i l.length with hl | hl
  ·exact hl
  ·rw [yau hl] at h; cases h
 refine ⟨by simpa using h1, ?_, hi⟩
 have := List.drop_drop (l := l) (i := 1) (j := i)
 rw [h] at this; simpa [Nat.add_comm] using this.symm
theorem zmx {α : Type} {l : List α} {i : Nat} (h : l.drop i = []) : l.length <= i := by
 rcases Nat.lt_or_ge i l.length with hl | hl
 ·have := congrArg List.length h; simp at this; omega
 ·exact hl
theorem zf5 (l : List Nat) : (Int.ofNat (zbw l)) = (l.length : Int) := by rw [zbb]; rfl
theorem zxx (cs : List zab) : zr2 true cs = .agg cs := rfl
end Go.Am
namespace Go.Am
open Go Go.RowKit
def zbg (k : IntKind) (l : List Nat) : List D := l.map fun (n : Nat) => D.int k (n : Int)
theorem zbj {k : IntKind} (l : List Nat) : (zbg k l).length = l.length := by simp [zbg]
theorem z9w {k : IntKind} {l : List Nat} {i x : Nat} (h : l[i]? = some x) : (zbg k l)[i]? = some (.int k (x : Int)) := by simp [zbg, h]
theorem zs7 {k : IntKind} {l : List Nat} {n : Nat} : (zbg k l).take n = zbg k (l.take n) := by simp [zbg]
def Own (t : Tr zal) (b : Nat) (k : IntKind) (l : List Nat) : Prop := ∃ c, t.get b = some (.cells c l.length none) /\ ∀ (j : Nat) x, l[j]? = some x -> c.get j = some (.int k (x : Int))
def Off (b : Nat) (t t' : Tr zal) : Prop := ∀ c, c ≠ b -> t'.get c = t.get c
theorem Off.refl (b : Nat) (t : Tr zal) : Off b t t := fun _ _ => rfl
theorem Off.trans {b : Nat} {x y z : Tr zal} (h : Off b x y) (k : Off b y z) : Off b x z := fun c hc => (k c hc).trans (h c hc)
section
variable {t t' t0 : Tr zal} {C : Ctx} {b : Nat} {k : IntKind} {l : List Nat}
theorem Own.off (h : Own t b k l) {c : Nat} (hc : b ≠ c) (ho : Off c t t') : Own t' b k l := by
 obtain ⟨x, h1, h2⟩ := h; exact ⟨x, by rw [ho b hc]; exact h1, h2⟩
theorem Own.tle (h : Own t b k l) (ho : TLe t t') : Own t' b k l := by
 obtain ⟨x, h1, h2⟩ := h; exact ⟨x, ho _ _ h1, h2⟩
theorem TLe.off (h : TLe t0 t) (hb : t0.get b = none) (ho : Off b t t') : TLe t0 t' := by
 intro c y hc; rw [ho c (by intro e; rw [e, hb] at hc; cases hc)]
 exact h c y hc
theorem Own.slice (h : Own t b k l) {off n cap : Nat} (hn : off + n <= l.length) (hc : n <= cap) : RSl t 1 (zbg k ((l.drop off).take n)) (.slice b off n cap) := by
 obtain ⟨c, h1, h2⟩ := h
 refine ⟨((l.drop off).take n).map fun (x : Nat) => [.int k (x : Int)], .inr ⟨b, off, cap, ?_, ?_, ⟨c, _, none, h1, .inl rfl⟩, fun i cs hi => ?_⟩, ?_⟩
 ·congr 1; simp; omega
 ·simp; omega
 ·simp only [yav, Option.map_eq_some_iff] at hi
  obtain ⟨x, hx, rfl⟩ := hi
  refine ⟨rfl, c, _, none, h1, fun j a hj => ?_⟩
  cases j with
  | zero =>
   simp at hj; subst hj; rw [List.getElem?_take] at hx; split at hx
   ·rw [List.getElem?_drop] at hx
    exact h2 (off + i * 1 + 0) x (by rw [show off + i * 1 + 0 = off + i by omega]; exact hx)
   ·cases hx
  | succ j => simp at hj
 ·refine RDs.mk (by simp [zbg]) fun i d cs hd hc => ?_
  simp only [zbg, yav, Option.map_eq_some_iff] at hd hc; obtain ⟨x, hx, rfl⟩ := hd
  obtain ⟨y, hy, rfl⟩ := hc
  rw [hx] at hy; cases hy; rfl
theorem Own.all (h : Own t b k l) {cap : Nat} (hc : l.length <= cap) : RSl t 1 (zbg k l) (.slice b 0 l.length cap) := by
 have := h.slice (off := 0) (n := l.length) (by omega) hc
 simpa using this
theorem zb7 {T el sz : Nat} {agg : Bool} (h : zjo C T el sz agg) {off n cap i : Nat} (hi : i < n) : zaf C T (.slice b off n cap) (.int .i64 (i : Int)) = some (.ptr b (off + i * sz)) := by
 obtain ⟨⟨y, hy1, hy2⟩, ⟨z, hz1, hz2, hz3⟩⟩ := h
 unfold zaf; rw [hy1, zac]; have : (zab.int .i64 (i : Int)).asNat = some i := rfl
 rw [this, zac]; simp only [zab.asSlice]; rw [hy2, zac, hz1, zac, zdl.2 hi, hz2]; rfl
theorem Own.load (h : Own t b k l) {j x : Nat} (hj : l[j]? = some x) {ty : Nat} {y : ATy} (hy : C.tys.get ty = some y) (ha : y.desc.isAgg = false) : zap C ty ⟨0, t⟩ (.ptr b j) = some (.int k (x : Int)) := by
 obtain ⟨c, h1, h2⟩ := h
 unfold zap; simp only [zab.asPtr, zac]; rw [hy, zac]; unfold za1; rw [h1, zac]; simp only [zal.asCells, zac]; unfold znn; rw [ha, cond_false]; exact h2 j x hj
theorem Own.store (h : Own t b k l) (hb : C.base <= b) {j : Nat} (hj : j < l.length) (x : Nat) {ty : Nat} {y : ATy} (hy : C.tys.get ty = some y) (hs : y.size = 1) :
  ∃ t', (∀ n, zb3 C ty (.ptr b j) (.int k (x : Int)) ⟨n, t⟩ = some (zbr, ⟨n, t'⟩)) /\ Own t' b k (l.set j x) /\ Off b t t' := by
 obtain ⟨c, h1, h2⟩ := h
 refine ⟨t.set b (.cells (c.setMany [.int k (x : Int)] j) l.length none), fun n => ?_, ⟨c.setMany [.int k (x : Int)] j, ?_, fun i y hi => ?_⟩, fun d hd => ?_⟩
 ·unfold zb3
  rw [hy, zac]; simp only [zab.asPtr, zac, zab.cells, zab.asAgg]; rw [hs]; have e1 : Nat.beq (zbw [zab.int k (x : Int)]) 1 = true := rfl
  rw [e1, zaz]; unfold zhx za1; have e2 : (!Nat.blt b C.base) = true := by
   cases hq : Nat.blt b C.base with
   | true => have := zdl.1 hq; omega
   | false => rfl
  rw [e2, zaz, h1, zac]; simp only [zal.asCells, zac]; have e3 : Nat.ble (j + zbw [zab.int k (x : Int)]) l.length = true := zj2.2 hj
  have e4 : zeb zab.one [zab.int k (x : Int)] = true := rfl
  rw [e3, e4]; rfl
 ·rw [Tr.get_set, if_pos rfl, List.length_set]
 ·rw [Tr.get_setMany]
  rw [List.getElem?_set] at hi; split at hi
  ·rename_i e
   subst e; rw [if_pos (by simp)]
   cases hi; simp
  ·rename_i e
   rw [if_neg (by simp; omega)]
   exact h2 i y hi
 ·rw [Tr.get_set, if_neg hd]
theorem zkx {T el : Nat} {y z : ATy} (hT : C.tys.get T = some y) (hel : y.desc.asSlice = some el) (hz : C.tys.get el = some z) (hzero : z.zero = [.int k 0]) (hs : z.size = 1) (hby : z.bytes <= 8) {n : Nat} (hn : n < 1000000) (hb : t.get b = none) :
  ∃ t', zch C T (.int .i64 (n : Int)) (.int .i64 (n : Int)) ⟨b, t⟩ = some (.slice b 0 n n, ⟨b + 1, t'⟩) /\ Own t' b k (List.replicate n 0) /\ TLe t t' /\ Off b t t' := by
 have hrep : ∀ n, zsj [zab.int k 0] n = List.replicate n (.int k 0) := by
  intro n; induction n with
  | zero => rfl
  | succ n ih => unfold zsj; rw [ih, zcl, List.replicate_succ]; rfl
 refine ⟨t.set b (.cells (Tr.ofList (zsj z.zero n)) (zbw (zsj z.zero n)) none), ?_, ⟨Tr.ofList (zsj z.zero n), ?_, fun j x hj => ?_⟩, fun c y' hc => ?_, fun c hc => ?_⟩
 ·unfold zch
  rw [hT, zac, hel, zac, hz, zac]; have e1 : (zab.int .i64 (n : Int)).asNat = some n := rfl
  rw [e1, zac, zac]; have e2 : (Nat.ble n n && Nat.blt n 1000000 && Nat.blt (n * z.bytes) 1000000000 && Nat.beq (zbw z.zero) z.size) = true := by
   rw [hzero, hs, show Nat.ble n n = true from zj2.2 (yal n), zdl.2 hn]
   have : n * z.bytes < 1000000000 := by
    have := Nat.mul_le_mul (Nat.le_of_lt hn) hby
    omega
   rw [zdl.2 this]; rfl
  rw [e2, zaz]; rfl
 ·rw [Tr.get_set, if_pos rfl, hzero, hrep, zbb]; simp
 ·rw [List.getElem?_replicate] at hj
  split at hj
  ·cases hj
   rw [Tr.get_ofList, hzero, hrep, List.getElem?_replicate]; rename_i e; rw [if_pos e]; rfl
  ·cases hj
 ·rw [Tr.get_set, if_neg (by intro e; rw [e, hb] at hc; cases hc)]; exact hc
 ·rw [Tr.get_set, if_neg hc]
end
end Go.Am
namespace Go.Am
def val (B : Nat) : List Nat -> Nat
 | [] => 0
 | a :: l => a + B * val B l
def za5 (B : Nat) (l : List Nat) : Prop := ∀ x ∈ l, x < B
def norm (l : List Nat) : Prop := ∀ h : l ≠ [], l.getLast h ≠ 0
theorem zgx (B : Nat) : ∀ (l m : List Nat), val B (l ++ m) = val B l + B ^ l.length * val B m
 | [], m => by simp [val]
 | a :: l, m => by
  simp only [List.cons_append, val, zgx B l m, yao, Nat.pow_succ]; rw [yan, <- yak, yai B (B ^ l.length)]
  omega
theorem zhw {B : Nat} (hB : 0 < B) : ∀ {l : List Nat}, za5 B l -> val B l < B ^ l.length
 | [], _ => by simp [val]
 | a :: l, h => by
  have h1 := h a (yaz)
  have h2 := zhw hB (l := l) fun x hx => h x (yas _ hx)
  simp only [val, yao, Nat.pow_succ]; have h3 : B * (val B l + 1) <= B * B ^ l.length := yaw B h2
  rw [yan, yai B (B ^ l.length)] at h3
  omega
theorem zds (B : Nat) (l : List Nat) (n : Nat) : val B l = val B (l.take n) + B ^ (l.take n).length * val B (l.drop n) := by
 rw [<- zgx, List.take_append_drop]
theorem zel {B : Nat} {l : List Nat} (h : za5 B l) (n : Nat) : za5 B (l.take n) := fun x hx => h x (List.mem_of_mem_take hx)
theorem z4g {B : Nat} {l : List Nat} (h : za5 B l) (n : Nat) : za5 B (l.drop n) := fun x hx => h x (List.mem_of_mem_drop hx)
theorem zzai {B : Nat} {l m : List Nat} (h : za5 B l) (k : za5 B m) : za5 B (l ++ m) := fun x hx => (List.mem_append.1 hx).elim (h x) (k x)
def zc9 : List Nat -> List Nat
 | [] => []
 | a :: l => if zc9 l = [] /\ a = 0 then [] else a :: zc9 l
theorem zes (B : Nat) : ∀ l : List Nat, val B (zc9 l) = val B l
 | [] => rfl
 | a :: l => by
  unfold zc9; have ih := zes B l
  split
  ·rename_i h
   rw [h.1] at ih; have : val B l = 0 := by rw [<- ih]; rfl
   simp [val, this, h.2]
  ·simp [val, ih]
theorem zej : ∀ l : List Nat, norm (zc9 l)
 | [] => fun h => (h rfl).elim
 | a :: l => by
  have ih := zej l
  unfold zc9; split
  ·exact fun h => (h rfl).elim
  ·rename_i h
   intro hne; by_cases hs : zc9 l = []
   ·have ha : a ≠ 0 := fun e => h ⟨hs, e⟩
    simp [hs, ha]
   ·rw [List.getLast_cons hs]; exact ih hs
theorem zdw {B : Nat} : ∀ {l : List Nat}, za5 B l -> za5 B (zc9 l)
 | [], h => h
 | a :: l, h => by
  have ih := zdw (l := l) fun x hx => h x (yas _ hx)
  unfold zc9; split
  ·exact fun x hx => (by cases hx)
  ·exact fun x hx => (yat.1 hx).elim (fun e => e ▸ h a yaz) (ih x)
theorem zvj : ∀ l : List Nat, (zc9 l).length <= l.length
 | [] => yal _
 | a :: l => by unfold zc9; have := zvj l; split <;> simp <;> omega
theorem zm9 : ∀ l : List Nat, zc9 (l ++ [0]) = zc9 l
 | [] => by simp [zc9]
 | a :: l => by
  show (if zc9 (l ++ [0]) = [] /\ a = 0 then [] else a :: zc9 (l ++ [0])) = _
  rw [zm9 l]; rfl
theorem zik : ∀ {l : List Nat}, norm l -> zc9 l = l
 | [], _ => rfl
 | a :: l, h => by
  have hl : norm l := by
   intro hne; have := h (by simp)
   rw [List.getLast_cons hne] at this; exact this
  unfold zc9; rw [zik hl]; split
  ·rename_i e
   have := h (by simp)
   obtain ⟨rfl, rfl⟩ := e
   simp at this
  ·rfl
theorem zyx {B : Nat} (hB : 0 < B) {l : List Nat} (h : norm l) (h0 : val B l = 0) : l = [] := by
 have key : ∀ l : List Nat, val B l = 0 -> ∀ x ∈ l, x = 0 := by
  intro l; induction l with
  | nil => intro _ x hx; cases hx
  | cons a l ih =>
   intro h x hx; simp only [val] at h; have ha : a = 0 := by omega
   have hm : B * val B l = 0 := by omega
   have hl : val B l = 0 := by
    rcases Nat.mul_eq_zero.1 hm with e | e
    ·omega
    ·exact e
   rcases yat.1 hx with rfl | hx
   ·exact ha
   ·exact ih hl x hx
 rcases List.eq_nil_or_concat l with e | ⟨m, a, e⟩
 ·exact e
 ·exfalso
  subst e; have := h (by simp)
  simp at this; exact this (key _ h0 a (by simp))
theorem z40 {B : Nat} {l : List Nat} (h : norm l) (hne : l ≠ []) : B ^ (l.length - 1) <= val B l := by
 rcases List.eq_nil_or_concat l with e | ⟨m, a, e⟩
 ·exact absurd e hne
 ·rw [List.concat_eq_append] at e
  subst e; have := h (by simp)
  simp at this; rw [zgx]; simp only [yah, yao, yay, val]; have : 1 <= a + B * 0 := by omega
  calc B ^ (m.length + 1 - 1) = B ^ m.length * 1 := by simp
   _ <= B ^ m.length * (a + B * 0) := yaw _ this
   _ <= _ := Nat.le_add_left _ _
theorem z4z {B : Nat} (hB : 0 < B) : ∀ {l m : List Nat}, za5 B l -> za5 B m -> l.length = m.length -> val B l = val B m -> l = m
 | [], [], _, _, _, _ => rfl
 | a :: l, b :: m, h1, h2, hl, hv => by
  have ha := h1 a yaz
  have hb := h2 b yaz
  simp only [val] at hv; have e1 : a = b := by
   have := congrArg (· % B) hv
   simp only [Nat.add_mul_mod_self_left, Nat.mod_eq_of_lt ha, Nat.mod_eq_of_lt hb] at this; exact this
  subst e1; have e2 : val B l = val B m := by
   have : B * val B l = B * val B m := by omega
   exact Nat.eq_of_mul_eq_mul_left hB this
  rw [z4z hB (fun x hx => h1 x (yas _ hx)) (fun x hx => h2 x (yas _ hx)) (by simpa using hl) e2]
 | [], _ :: _, _, _, h, _ => by simp at h
 | _ :: _, [], _, _, h, _ => by simp at h
theorem zfd {B : Nat} (hB : 1 < B) {l m : List Nat} (h1 : za5 B l) (h3 : norm m) (hv : val B m <= val B l) : m.length <= l.length := by
 by_cases hm : m = []
 ·simp [hm]
 ·have a := z40 (B := B) h3 hm
  have b := zhw (by omega) h1
  have : B ^ (m.length - 1) < B ^ l.length := by omega
  have := (Nat.pow_lt_pow_iff_right hB).1 this
  omega
theorem zzcf {B : Nat} (hB : 1 < B) {l m : List Nat} (h1 : za5 B l) (h2 : za5 B m) (h3 : norm l) (h4 : norm m) (hv : val B l = val B m) : l = m := by
 have a := zfd hB h1 h4 (by omega)
 have b := zfd hB h2 h3 (by omega)
 exact z4z (by omega) h1 h2 (by omega) hv
def zur (a b : List Nat) : Int := if a.length ≠ b.length then (if a.length < b.length then -1 else 1) else go a b
where go : List Nat -> List Nat -> Int
 | a :: l, b :: m => if go l m ≠ 0 then go l m else if a < b then -1 else if b < a then 1 else 0
 | _, _ => 0
theorem z93 {B : Nat} : ∀ {a b : List Nat}, za5 B a -> za5 B b -> a.length = b.length -> (zur.go a b < 0 ↔ val B a < val B b) /\ (zur.go a b = 0 ↔ val B a = val B b)
 | [], [], _, _, _ => by simp [zur.go, val]
 | a :: l, b :: m, h1, h2, hl => by
  have ha := h1 a yaz
  have hb := h2 b yaz
  obtain ⟨i1, i2⟩ := z93 (a := l) (b := m) (fun x hx => h1 x (yas _ hx)) (fun x hx => h2 x (yas _ hx)) (by simpa using hl)
  have lt_of : ∀ {x y : Nat}, x < y -> ∀ u v, u < B -> u + B * x < v + B * y := by
   intro x y h u v hu; have : B * (x + 1) <= B * y := yaw B h
   rw [yan] at this; omega
  unfold zur.go; simp only [val]; by_cases h0 : zur.go l m = 0
  ·have e := i2.1 h0
   rw [if_neg (by simpa using h0), e]
   by_cases c1 : a < b
   ·rw [if_pos c1]; constructor <;> constructor <;> intro h <;> omega
   ·rw [if_neg c1]
    by_cases c2 : b < a
    ·rw [if_pos c2]; constructor <;> constructor <;> intro h <;> omega
    ·rw [if_neg c2]; constructor <;> constructor <;> intro h <;> omega
  ·rw [if_pos h0]
   constructor
   ·rw [i1]
    constructor
    ·intro h; exact lt_of h a b ha
    ·intro h
     rcases Nat.lt_trichotomy (val B l) (val B m) with g | g | g
     ·exact g
     ·exact absurd (i2.2 g) h0
     ·have := lt_of g b a hb; omega
   ·constructor
    ·intro h; exact absurd h h0
    ·intro h
     rcases Nat.lt_trichotomy (val B l) (val B m) with g | g | g
     ·have := lt_of g a b ha; omega
     ·exact i2.2 g
     ·have := lt_of g b a hb; omega
 | [], _ :: _, _, _, h => by simp at h
 | _ :: _, [], _, _, h => by simp at h
theorem z92 {B : Nat} (hB : 1 < B) {a b : List Nat} (h1 : za5 B a) (h2 : za5 B b) (h3 : norm a) (h4 : norm b) : zur a b < 0 ↔ val B a < val B b := by
 unfold zur; by_cases hl : a.length = b.length
 ·rw [if_neg (by simpa using hl)]; exact (z93 h1 h2 hl).1
 ·rw [if_pos hl]
  by_cases hlt : a.length < b.length
  ·rw [if_pos hlt]
   refine ⟨fun _ => ?_, fun _ => by omega⟩
   rcases Nat.lt_or_ge (val B a) (val B b) with g | g
   ·exact g
   ·have := zfd hB h1 h4 g; omega
  ·rw [if_neg hlt]
   refine ⟨fun h => by omega, fun h => ?_⟩
   have := zfd hB h2 h3 (by omega); omega
end Go.Am
namespace Go.Am
open Go Go.RowKit
theorem za9 {n : Int} (h1 : 0 <= n) (h2 : n < 18446744073709551616) : zah .u64 n = n := by
 rw [zc6]; simp only [IntKind.wrap, IntKind.bits, IntKind.signed]; simp; omega
theorem zgl {n : Int} (h1 : 0 <= n) (h2 : n < 4294967296) : zah .u32 n = n := by
 rw [zc6]; simp only [IntKind.wrap, IntKind.bits, IntKind.signed]; simp; omega
theorem zza1 {n : Int} (h1 : 0 <= n) (h2 : n < 65536) : zah .u16 n = n := by
 rw [zc6]; simp only [IntKind.wrap, IntKind.bits, IntKind.signed]; simp; omega
theorem z4u {n : Int} (h1 : 0 <= n) (h2 : n < 256) : zah .u8 n = n := by
 rw [zc6]; simp only [IntKind.wrap, IntKind.bits, IntKind.signed]; simp; omega
theorem zf2 (n : Int) : zah .u64 n = n % 18446744073709551616 := by
 rw [zc6]; simp only [IntKind.wrap, IntKind.bits, IntKind.signed]; simp
theorem zdf (n : Int) : zah .u32 n = n % 4294967296 := by
 rw [zc6]; simp only [IntKind.wrap, IntKind.bits, IntKind.signed]; simp
theorem z4t (n : Int) : zah .u16 n = n % 65536 := by
 rw [zc6]; simp only [IntKind.wrap, IntKind.bits, IntKind.signed]; simp
theorem zd0 {f : Nat -> Nat -> Nat} {k : IntKind} {x y : Nat} (h1 : x < kHi k) (h2 : y < kHi k) : ze0 f k (x : Int) (y : Int) = some (.int k (f x y : Nat)) := by
 unfold ze0; have e1 : zkc (x : Int) = some x := rfl
 have e2 : zkc (y : Int) = some y := rfl
 rw [e1, zac, e2, zac, zdl.2 h1, zdl.2 h2]; rfl
theorem zud {k : IntKind} {x y : Nat} (h0 : 0 < y) (hw : zah k ((x / y : Nat) : Int) = ((x / y : Nat) : Int)) : zzc1 k (x : Int) (y : Int) = some (.int k ((x / y : Nat) : Int)) := by
 unfold zzc1; have : iEq (y : Int) 0 = false := by
  cases hq : iEq (y : Int) 0 with
  | false => rfl
  | true => have := (zji _ _).1 hq; omega
 rw [this, cond_false, Int.tdiv_eq_ediv_of_nonneg (by omega)]
 rw [<- Int.natCast_ediv, hw]
theorem zo8 {k : IntKind} {x y : Nat} (h0 : 0 < y) : zzc0 k (x : Int) (y : Int) = some (.int k ((x % y : Nat) : Int)) := by
 unfold zzc0; have : iEq (y : Int) 0 = false := by
  cases hq : iEq (y : Int) 0 with
  | false => rfl
  | true => have := (zji _ _).1 hq; omega
 rw [this, cond_false, Int.tmod_eq_emod_of_nonneg (by omega), <- Int.natCast_emod]
theorem zc3 {a b : Int} : (iEq a b = true) ↔ a = b := zji a b
theorem zjf {a b : Int} : ((!iEq a b) = true) ↔ a ≠ b := by rw [Bool.not_eq_true', <- Bool.not_eq_true, zc3]
theorem zo5 {b : Bool} : ((!b) = true) ↔ b = false := by simp
theorem zpz {a b n : Nat} (h : b < 2 ^ n) : Nat.lor (a * 2 ^ n) b = a * 2 ^ n + b := by
 show a * 2 ^ n ||| b = _
 rw [<- Nat.shiftLeft_eq, <- Nat.shiftLeft_add_eq_or_of_lt h, Nat.shiftLeft_eq]
theorem or_low {a b n : Nat} (h : b < 2 ^ n) (ha : a % 2 ^ n = 0) : Nat.lor a b = a + b := by
 obtain ⟨c, hc⟩ := Nat.dvd_of_mod_eq_zero ha
 subst hc; rw [yai]; exact zpz h
theorem RSl.idx {t : Tr zal} {C : Ctx} {T el : Nat} (h : zjo C T el 1 false) {k : IntKind} {l : List Nat} {v : zab} (hr : RSl t 1 (zbg k l) v) {i x : Nat} (hi : l[i]? = some x) :
  ∃ b off, zaf C T v (.int .i64 (i : Int)) = some (.ptr b off) /\ zap C el ⟨0, t⟩ (.ptr b off) = some (.int k (x : Int)) := by
 obtain ⟨b, off, cs, h1, h2, _, _, h5⟩ := zjo.at h (fun _ => rfl) hr (z9w hi)
 rw [zgk] at h5; subst h5; exact ⟨b, off, h1, h2⟩
theorem zey (x : Nat) (n : Nat) : Int.fdiv (x : Int) (n : Int) = ((x / n : Nat) : Int) := by
 rw [Int.fdiv_eq_ediv_of_nonneg _ (by omega)]; exact (Int.natCast_ediv x n).symm
theorem getElem?_of_lt {l : List Nat} {i : Nat} (h : i < l.length) : ∃ x, l[i]? = some x := ⟨l[i], yae h⟩
theorem zbt {B : Nat} {l : List Nat} (h : za5 B l) {i x : Nat} (hi : l[i]? = some x) : x < B := h x (List.mem_of_getElem? hi)
theorem zmm {l : List Nat} (h : l ≠ []) : ∃ m x, l = m ++ [x] := by
 rcases List.eq_nil_or_concat l with e | ⟨m, a, e⟩
 ·exact absurd e h
 ·exact ⟨m, a, by rw [e, List.concat_eq_append]⟩
end Go.Am
namespace Go.Am
open Go Go.RowKit Go.Proofs
theorem z79 {p : Oper} {t : Nat} {a : Operand} (h : ldOp p = some (t, a)) : p.op = .load t a := by
 unfold ldOp at h; split at h
 ·rename_i e; cases h; exact e
 ·cases h
theorem zuf {C : Ctx} {o : zdr} {i : Nat} {tm : Tm} {H : zai} {t : Nat} {a : Operand} {d : Option Nat} {b off : Nat} {ty : ATy} {cc : Tr zab × Nat × Option Nat} {v : zab}
  (ho : (match opO o i with | some p => (ldOp p, zez p.guard, p.dst) | none => (none, false, none)) = (some (t, a), true, d)) (h1 : ev a (.now tm) = some (.ptr b off)) (h2 : C.tys.get t = some ty) (h3 : za1 H b = some cc) (h4 : znn ty cc.1 off = some v) :
  goO C o i tm H = goO C o (i + 1) (putA (zmg o).n tm d v) H := by
 refine zwq (v := v) (H' := H) (d := d) ?_
 unfold atO
 cases hp : opO o i with
 | none => rw [hp] at ho; cases ho
 | some p =>
  rw [hp] at ho; simp only [Prod.mk.injEq] at ho; obtain ⟨g1, g2, g3⟩ := ho
  rw [zac, g2, z79 g1, zzcj h1 h2 h3 h4, g3]; rfl
theorem zug {C : Ctx} {o : zdr} {i : Nat} {tm : Tm} {H : zai} {t : Nat} {a b : Operand} {d : Option Nat} {v : zab} {op : BinOp} {f : Oper -> Option (Nat × Operand × Operand)} (hf : ∀ p, f p = some (t, a, b) -> ∃ u, p.op = .binOp op t a b u)
  (ho : (match opO o i with | some p => (f p, zez p.guard, p.dst) | none => (none, false, none)) = (some (t, a, b), true, d)) (hv : zwj op t a b C (.now tm) H = some v) :
  goO C o i tm H = goO C o (i + 1) (putA (zmg o).n tm d v) H := by
 refine zwq (v := v) (H' := H) (d := d) ?_
 unfold atO
 cases hp : opO o i with
 | none => rw [hp] at ho; cases ho
 | some p =>
  rw [hp] at ho; simp only [Prod.mk.injEq] at ho; obtain ⟨g1, g2, g3⟩ := ho
  obtain ⟨u, hu⟩ := hf p g1
  have : ((aop p.op).f C (.now tm) H).asVal = some (v, H) := by
   rw [hu]; exact z76 (l := zwj op t a b) rfl hv
  rw [zac, g2, this, g3]; rfl
theorem zqb {t : Nat} {a b : Operand} (p : Oper) (h : zzet p = some (t, a, b)) : ∃ u, p.op = .binOp .or t a b u := by
 unfold zzet at h; split at h
 ·rename_i e; cases h; exact ⟨_, e⟩
 ·cases h
theorem z2z {t : Nat} {a b : Operand} (p : Oper) (h : zzbr p = some (t, a, b)) : ∃ u, p.op = .binOp .shl t a b u := by
 unfold zzbr at h; split at h
 ·rename_i e; cases h; exact ⟨_, e⟩
 ·cases h
theorem zzes {x y : Nat} (hx : x < 18446744073709551616) (hy : y < 18446744073709551616) : ze0 Nat.lor .u64 (.ofNat x) (.ofNat y) = some (.int .u64 (.ofNat (Nat.lor x y))) := zd0 hx hy
theorem ztf {x : Nat} (h : x < 18446744073709551616) : zah .u64 (.ofNat x) = .ofNat x := za9 (by show (0 : Int) <= (x : Int); omega) (by show (x : Int) < _; omega)
section
variable {c : Tr zab} {n off cap : Nat}
theorem z71 {x : Nat} (hx : c.get off = some (.int .u32 (.ofNat x))) : zi9 CL (l1 c n off cap 1) = l2 c n off cap 1 x := by
 rw [zzcw, zuf (l1_op1 c n off cap) (l1_ev1 c n off cap) zep (zzhk c n off cap) (v := .int .u32 (.ofNat x)) hx]
 rfl
theorem z70 {x : Nat} (hx : c.get (off + 1) = some (.int .u32 (.ofNat x))) : zi9 CL (l1 c n off cap 2) = l2 c n off cap 2 x := by
 rw [zzcv, zuf (l1_op2 c n off cap) (l1_ev2 c n off cap) zep (zzhj c n off cap) (v := .int .u32 (.ofNat x)) hx]
 rfl
theorem zero_or {x : Nat} (hx : x < 4294967296) : ze0 Nat.lor .u64 (zah .u64 (.ofNat 0 * .ofNat 4294967296)) (zah .u64 (.ofNat x)) = some (.int .u64 (.ofNat x)) := by
 have e : zah .u64 (.ofNat 0 * .ofNat 4294967296) = .ofNat 0 := by decide
 rw [e, ztf (by omega), zzes (by decide) (by omega)]
 show some (zab.int .u64 (.ofNat (0 ||| x))) = _
 rw [Nat.zero_or]
theorem z7z {x : Nat} (hx : x < 4294967296) : zi9 CL (l3 c n off cap 1 x) = l4 c n off cap 1 x x := by
 rw [zzcu, zug (op := .or) (f := zzet) zqb (l3_op1 c n off cap x) (v := .int .u64 (.ofNat x)) (by rw [l3_or1]; exact zero_or hx)]
 rfl
theorem z7y {x : Nat} (hx : x < 4294967296) : zi9 CL (l3 c n off cap 2 x) = l4 c n off cap 2 x x := by
 rw [zzct, zug (op := .or) (f := zzet) zqb (l3_op2 c n off cap x) (v := .int .u64 (.ofNat x)) (by rw [l3_or2]; exact zero_or hx)]
 rfl
theorem z3k {y z x : Nat} (hx : c.get off = some (.int .u32 (.ofNat x))) : zi9 CL (l5 c n off cap y z) = l6 c n off cap y z x := by
 rw [zzhi, zuf (l5_op c n off cap y z) (l5_ev c n off cap y z) zep (l5_blk c n off cap y z) (v := .int .u32 (.ofNat x)) hx]
 rfl
theorem z73 {y z x : Nat} (hz : z < 4294967296) (hx : x < 4294967296) : zi9 CL (l7 c n off cap y z x) = l8 c n off cap y z x (z * 4294967296) x (z * 4294967296 + x) := by
 have hb : ∀ (p q : Operand) (u v : Nat), (zxd .or).f CL 56 p q (.int .u64 (.ofNat u)) (.int .u64 (.ofNat v)) = ze0 Nat.lor .u64 (.ofNat u) (.ofNat v) := fun _ _ _ _ => rfl
 have hs : ∀ (p q : Operand) (u : Nat), (zxd .shl).f CL 56 p q (.int .u64 (.ofNat u)) (.int .u64 32) = z3s .u64 (.ofNat u) 32 := fun _ _ _ => rfl
 have hw : zah .u64 (.ofNat z * .ofNat (2 ^ 32)) = .ofNat (z * 4294967296) := by
  rw [show (Int.ofNat z * Int.ofNat (2 ^ 32)) = Int.ofNat (z * 4294967296) from rfl, ztf (by omega)]
 rw [zzbg (zzcs c n off cap y z x), zwq (l7_0 c n off cap y z x)]
 show goO CL _ 1 (tA c n off cap y z x) _ = _
 rw [zug (op := .shl) (f := zzbr) z2z (l7_opS c n off cap y z x) (v := .int .u64 (.ofNat (z * 4294967296))) (by
  unfold zwj; rw [l7_evS, zac, show ev (.const (.int .u64 32)) (.now (tA c n off cap y z x)) = some (.int .u64 32) from rfl, zac, hs]
  unfold z3s zoa; rw [show zkc 32 = some 32 from rfl, zac, show min 32 IntKind.u64.bits = 32 from rfl, zac, hw])]
 show goO CL _ 2 (tB c n off cap y z x (z * 4294967296)) _ = _
 rw [zwq (l7_2 c n off cap y z x (z * 4294967296))]
 show goO CL _ 3 (tC c n off cap y z x (z * 4294967296)) _ = _
 have h3 := l7_3 c n off cap y z x (z * 4294967296)
 rw [ztf (by omega : x < 18446744073709551616)] at h3
 rw [zwq h3]; show goO CL _ 4 (tD c n off cap y z x (z * 4294967296) x) _ = _
 rw [zug (op := .or) (f := zzet) zqb (l7_op c n off cap y z x) (v := .int .u64 (.ofNat (z * 4294967296 + x))) (by
  unfold zwj; rw [l7_ev9, zac, zzhh, zac, hb, zzes (by omega) (by omega), show (4294967296 : Nat) = 2 ^ 32 from rfl, zpz (by omega)])]
 rfl
end
def muL (i : Option BI) : Mu := ⟨fun g => if g < 256 then some ⟨g, true, 0, 0, true⟩ else if g = 256 then i else none, fun _ => none⟩
theorem zzhs {w : World} {c : Tr zab} {n : Nat} {i : Option BI} (hi : ∀ j, i = some j -> j.b < w.heap.size /\ ∃ o, w.heap[j.b]? = some o /\ zm8 (muL i) j (.cells c n none) o) : zb0 257 w.heap.size (muL i) (HL c n) w := by
 have hget : ∀ a x, (HL c n).t.get a = some x -> a = 256 /\ x = .cells c n none := by
  intro a x hx; have hx : (Tr.set .leaf 256 (.cells c n none)).get a = some x := hx
  rw [Tr.get_set] at hx; split at hx
  ·rename_i e; exact ⟨e, (Option.some.inj hx).symm⟩
  ·rw [Tr.get_leaf] at hx; cases hx
 have h256 : (muL i) 256 = i := by show (if 256 < 256 then some (⟨256, true, 0, 0, true⟩ : BI) else if 256 = 256 then i else none) = i; rw [if_neg (by omega), if_pos rfl]
 refine ⟨by omega, fun g hg => by show (if g < 256 then some (⟨g, true, 0, 0, true⟩ : BI) else if g = 256 then i else none) = _; rw [if_pos hg], fun a x j _ hx hj => ?_, yal _, yal _, fun a ha => ?_, fun a x j hx hj => ?_, fun a j ha hj => ?_, fun a b x y j k hx _ _ _ ha _ _ => ?_, fun a x t ha => by cases ha⟩
 ·obtain ⟨rfl, rfl⟩ := hget a x hx
  rw [h256] at hj; exact ⟨(hi j hj).1, rfl, rfl⟩
 ·have ha : 257 <= a := ha
  refine ⟨by show (if a < 256 then some (⟨a, true, 0, 0, true⟩ : BI) else if a = 256 then i else none) = none; rw [if_neg (by omega), if_neg (by omega)], ?_⟩
  cases hx : (HL c n).t.get a with
  | none => rfl
  | some x => have := (hget a x hx).1; omega
 ·obtain ⟨rfl, rfl⟩ := hget a x hx
  rw [h256] at hj; exact (hi j hj).2
 ·have hj : (if a < 256 then some ⟨a, true, 0, 0, true⟩ else if a = 256 then i else none) = some j := hj
  rw [if_neg (by omega), if_neg (by omega)] at hj
  cases hj
 ·have := (hget a x hx).1; omega
theorem simL (N : Nat) : Sim Tryz.prog CL 257 N (fun _ => True) :=
 ⟨z5b rfl, z1z rfl, fun f g hg => by (have hg : Tr.leaf.get f = some g := hg; rw [Tr.get_leaf] at hg; cases hg), yal _, by kernel_rfl, fun _ _ _ h => h⟩
theorem z6k {P : Program} {C : Ctx} {B N : Nat} {μ : Mu} {w : World} {base : List Frame} (hF : zuy P C) {f : Nat} {args : List zab} {args' : Array Value} {H : zai} (hH : zb0 B N μ H w) (hl : zby μ args args'.toList) {g : zav} (he : zeo C f args false = some g) :
  zb2 P C B N μ base (lone (Frame.enter P f args' .normal) base w) w (zlg C f args H) := by
 unfold zlg; rw [he]; exact ⟨μ, _, [], w, .refl _ _, fun _ _ h => h, Below.refl N w, hH, (zk2 (cur := some H) hF he hl).1, .nil⟩
theorem zg6 {P : Program} {C : Ctx} {B N : Nat} {I : World -> Prop} {μ : Mu} {w : World} {base : List Frame} {m : Machine} (hS : Sim P C B N I) (hI : I w) : ∀ (n : Nat) {o : zdr}, zb2 P C B N μ base m w o -> zb2 P C B N μ base m w (zvm C n o)
 | 0, _, h => h
 | n + 1, _, h => zgm hS hI (zg6 hS hI n h)
theorem zzid (a : zab) : ∃ g, zeo CL 318 [a] false = some g := by
 have : (zeo CL 318 [a] false).isSome = true := by kernel_rfl
 exact Option.isSome_iff_exists.1 this
theorem zq3 {w : World} {i : Option BI} {c : Tr zab} {n : Nat} (hH : zb0 257 w.heap.size (muL i) (HL c n) w) {a : zab} {a' : Value} (hl : zaq (muL i) a a') {u : Nat} {o : zdr}
  (hrun : ∀ base m, zb2 Tryz.prog CL 257 w.heap.size (muL i) base m w (zlg CL 318 [a] (HL c n)) -> zb2 Tryz.prog CL 257 w.heap.size (muL i) base m w o) (ho : zyl o = some (.int .u64 (.ofNat u))) :
  Calls Tryz.prog 318 #[a'] w fun e w' => e = .returned (.int .u64 (.ofNat u)) /\ Below w.heap.size w w' := by
 intro base; obtain ⟨g, he⟩ := zzid a
 have h0 := hrun base _ (z6k (base := base) (simL w.heap.size).fns hH (args' := #[a']) (.single hl) he)
 obtain ⟨H', hd⟩ := z27 ho
 rw [hd] at h0; obtain ⟨μ', b, w', v', h2, h3, h4, h5, h6, h7, h8⟩ := h0
 rw [zaq] at h6; subst h6; exact ⟨_, w', b, ⟨rfl, h4⟩, h2, h7, h8⟩
theorem zgy {a : zab} {x : Nat} (h : zx4 a = some x) : a = .int .u32 (.ofNat x) /\ x < 4294967296 := by
 unfold zx4 at h; simp only [zad, zae, zcd, ze3, beq_iff_eq, zdl] at h; obtain ⟨p, rfl, h1, y, h2, h3, h4⟩ := h
 cases h4; rw [zit] at h2; rw [h1, h2]; exact ⟨rfl, h3⟩
theorem z66 {B N : Nat} {μ : Mu} {H : zai} {w : World} {args : List zab} {args' : Array Value} {v : zab} (hH : zb0 B N μ H w) (hv : z7f args H = some v) (hl : zby μ args args'.toList) :
  (callFunc 318 args').run Tryz.prog w = .ok (.enter 318 args') w /\ Calls Tryz.prog 318 args' w fun e w' => ∃ v', e = .returned v' /\ zaq μ v v' /\ Below w.heap.size w w' := by
 refine ⟨zs5 (fn := Tryz.f318) Tryz.func318 (by kernel_rfl), ?_⟩
 have fin : ∀ {a' : Value} {u : Nat}, args' = #[a'] -> v = .int .u64 (.ofNat u) -> (Calls Tryz.prog 318 #[a'] w fun e w' => e = .returned (.int .u64 (.ofNat u)) /\ Below w.heap.size w w') →
   Calls Tryz.prog 318 args' w fun e w' => ∃ v', e = .returned v' /\ zaq μ v v' /\ Below w.heap.size w w' := by
  intro a' u e1 e2 h; rw [e1]; exact h.mono fun e w' ⟨h1, h2⟩ => ⟨_, h1, by rw [e2, zaq], h2⟩
 unfold z7f at hv; split at hv
 case h_2 => cases hv
 rename_i a; rw [zby] at hl; obtain ⟨x, r, he, hx, hr⟩ := hl
 rw [zby] at hr; subst hr; have hargs : args' = #[x] := by apply Array.toList_inj.1; simpa using he
 cases hs : a.asSlice with
 | none =>
  rw [hs] at hv; rw [zae, zc0] at hv; obtain ⟨h1, h2⟩ := hv
  cases h2; have ha : a = .nilslice := zj6.2.1.1 h1
  subst ha; rw [zaq] at hx; subst hx; refine fin (u := 0) hargs rfl (zq3 (i := none) (c := .leaf) (n := 0) (zzhs fun j hj => by cases hj) (a := .nilslice) (by rw [zaq]) (fun base m h => znc (simL _) trivial 6 h) (longN .leaf 0))
 | some s =>
  rw [hs] at hv; obtain ⟨sb, off, len, cap⟩ := s
  have ha := zdp.1 hs
  simp only at ha
  subst ha; simp only [zar] at hv; split at hv
  case isFalse => cases hv
  rename_i hlen; have hlen := zdl.1 hlen
  simp only [zad] at hv; obtain ⟨cc, hcc, l, hm, hv⟩ := hv
  rw [zaq] at hx; rcases hx with ⟨j, cap', hj, rfl, _, _, _⟩ | ⟨k1, k2, k3, k4, A, rfl⟩
  rotate_left
  ·rw [k3] at hm
   cases hm
   cases hv; exact fin (u := 0) hargs rfl (zq3 (i := none) (c := .leaf) (n := 0) (zzhs fun j hj => by cases hj) (a := .slice 0 0 0 0) (by rw [zaq]; exact .inr ⟨rfl, rfl, rfl, rfl, A, rfl⟩) (fun base m h => znc (simL _) trivial 6 h) (longE .leaf 0))
  obtain ⟨o, ho1, ho2⟩ := hH.blk _ _ j (zek hcc) hj
  obtain ⟨cs, elem, fr, rfl, hn, _, hc, _⟩ := ho2
  obtain ⟨hl1, hl2⟩ := Tr.many_some _ _ _ _ hm
  have hget : ∀ k, (Tr.setMany l .leaf off).get k = if off <= k /\ k < off + l.length then l[k - off]? else none := fun k => by rw [Tr.get_setMany, Tr.get_leaf]
  have ints : ∀ a ∈ l, ∃ x : Nat, a = .int .u32 (.ofNat x) := by
   intro a ha; match l, hv, ha with
   | [], _, ha => cases ha
   | [b], hv, ha =>
    simp only [zy1, zad] at hv; obtain ⟨y, hy, _⟩ := hv
    simp at ha; subst ha; exact ⟨y, (zgy hy).1⟩
   | [b, d], hv, ha =>
    simp only [zy1, zad] at hv; obtain ⟨y, hy, z, hz, _⟩ := hv
    simp at ha; rcases ha with rfl | rfl
    ·exact ⟨y, (zgy hy).1⟩
    ·exact ⟨z, (zgy hz).1⟩
  have hrel : zb0 257 w.heap.size (muL (some ⟨j.b, true, 0, 0, true⟩)) (HL (Tr.setMany l .leaf off) cs.size) w := by
   refine zzhs fun q hq => ?_
   cases hq; refine ⟨(yaf.1 ho1).1, _, ho1, cs, elem, fr, rfl, yal _, .inl rfl, fun k u hu => ?_, rfl⟩
   rw [hget] at hu; split at hu
   case isFalse => cases hu
   rename_i hk; have h1 := hl2 (k - off) (by omega)
   rw [show off + (k - off) = k by omega, hu] at h1
   obtain ⟨g1, v', g2, g3⟩ := hc k u h1
   obtain ⟨y, rfl⟩ := ints u (List.mem_of_getElem? hu)
   rw [zaq] at g3; exact ⟨by omega, v', g2, by rw [zaq]; exact g3⟩
  have hvr : zaq (muL (some ⟨j.b, true, 0, 0, true⟩)) (.slice 256 off len cap') (.slice (some ⟨j.b, off, none⟩) len cap') := by
   rw [zaq]; exact .inl ⟨⟨j.b, true, 0, 0, true⟩, cap', rfl, rfl, yal _, fun _ => rfl, fun h => by cases h⟩
  have hS := simL w.heap.size
  match l, hv, hl1, hl2, hget, hrel with
  | [], hv, hl1, _, _, hrel =>
   have : len = 0 := by simpa using hl1.symm
   subst this
   cases hv; exact fin (u := 0) hargs rfl (zq3 hrel hvr (fun base m h => znc hS trivial 6 h) (long0 _ _ _ _))
  | [a], hv, hl1, hl2, hget, hrel =>
   have : len = 1 := by simpa using hl1.symm
   subst this; simp only [zy1, zad] at hv; obtain ⟨y, hy, hv⟩ := hv
   cases hv; obtain ⟨rfl, hlt⟩ := zgy hy
   have g0 : (Tr.setMany [zab.int .u32 (.ofNat y)] .leaf off).get off = some (.int .u32 (.ofNat y)) := by rw [hget, if_pos (by simp)]; simp
   refine fin (u := y) hargs rfl (zq3 hrel hvr (o := z0w CL 6 (l4 (Tr.setMany [zab.int .u32 (.ofNat y)] .leaf off) cs.size off cap' 1 y y)) (fun base m h => ?_) (l4_end _ _ _ _ _ _))
   refine znc hS trivial 6 ?_
   rw [<- z7z hlt]; refine zgm hS trivial (zg6 hS trivial 3 ?_)
   rw [<- z71 g0]; exact zgm hS trivial (zg6 hS trivial 17 h)
  | [a, b], hv, hl1, hl2, hget, hrel =>
   have : len = 2 := by simpa using hl1.symm
   subst this; simp only [zy1, zad] at hv; obtain ⟨y, hy, z, hz, hv⟩ := hv
   cases hv; obtain ⟨rfl, hlt⟩ := zgy hy
   obtain ⟨rfl, hlt2⟩ := zgy hz
   have g0 : (Tr.setMany [zab.int .u32 (.ofNat y), zab.int .u32 (.ofNat z)] .leaf off).get off = some (.int .u32 (.ofNat y)) := by rw [hget, if_pos (by simp)]; simp
   have g1 : (Tr.setMany [zab.int .u32 (.ofNat y), zab.int .u32 (.ofNat z)] .leaf off).get (off + 1) = some (.int .u32 (.ofNat z)) := by rw [hget, if_pos (by simp)]; simp
   refine fin (u := z * 4294967296 + y) hargs (by rw [show y + 4294967296 * z = z * 4294967296 + y by omega]) (zq3 hrel hvr (o := z0w CL 6 (l8 (Tr.setMany [zab.int .u32 (.ofNat y), zab.int .u32 (.ofNat z)] .leaf off) cs.size off cap' z z y (z * 4294967296) y (z * 4294967296 + y))) (fun base m h => ?_) (l8_end _ _ _ _ _ _ _ _ _ _))
   refine znc hS trivial 6 ?_
   rw [<- z73 hlt2 hlt]; refine zgm hS trivial (zg6 hS trivial 3 ?_)
   rw [<- z3k g0]; refine zgm hS trivial (zg6 hS trivial 12 ?_)
   rw [<- z7y hlt2]; refine zgm hS trivial (zg6 hS trivial 3 ?_)
   rw [<- z70 g1]; exact zgm hS trivial (zg6 hS trivial 17 h)
end Go.Am
namespace Go.Am
open Go Go.RowKit Go.Proofs
theorem z3b [zcf] (B N : Nat) : zri Tryz.prog C19 B N zcy := by
 intro f g hg args H v hv μ w args' hH hI hl; have hg : z65.get f = some g := hg
 unfold z65 at hg; rw [Tr.get_set, Tr.get_set, Tr.get_set, Tr.get_set] at hg; split at hg
 ·rename_i e; subst e; cases hg; exact .inr (z67 hI hv hl)
 ·split at hg
  ·rename_i e; subst e; cases hg; exact .inr (zzb4 hI hv hl)
  ·split at hg
   ·rename_i e; subst e; cases hg; exact .inr (z66 hH hv hl)
   ·split at hg
    ·rename_i e
     subst e
     cases hg; refine .inr ⟨zs5 (fn := Tryz.f14) Tryz.func14 (by kernel_rfl), ?_⟩
     unfold zzgx at hv; split at hv
     case h_2 => cases hv
     cases hv; rw [zby] at hl; have : args' = #[] := by apply Array.toList_inj.1; simpa using hl
     subst this; exact (zzz hI).mono fun e w' ⟨h1, h2⟩ => ⟨_, h1, by rw [zaq], h2⟩
    ·rw [Tr.get_leaf] at hg; cases hg
theorem sim19 [zcf] (hN : 6 <= zcf.n) : Sim Tryz.prog C19 (256 + zcf.n) zcf.n zcy :=
 ⟨z5b rfl, z1z rfl, z3b _ _, yal _, by kernel_rfl, fun _ _ hb h => h.below hN hb⟩
end Go.Am
