/- The parser of chapter 12 in plain terms. -/
import Derived.Carry
import Derived.ChangeArms
import Derived.HandedShaped
import Derived.JoinedOf
import Derived.LaidMore
import Derived.OpenShut
import Derived.ProofKit
import Derived.Stop.Joined
import Derived.Test.YtfmlbimokklmgaaGreatDoorRows
import GoSem.ClaimJoined
import Derived.Test.YtfmlbimokklmgaaGreatDoorA16
set_option linter.all false
noncomputable section
namespace Go.Proofs
open Go Go.Am
abbrev wPlan : List Nat := [112, 108, 97, 110]
abbrev wFact : List Nat := [102, 97, 99, 116]
abbrev wDef : List Nat := [100, 101, 102]
abbrev wTable : List Nat := [116, 97, 98, 108, 101]
abbrev wTwo : List Nat := [116, 119, 111]
abbrev wOne : List Nat := [111, 110, 101]
abbrev wRow : List Nat := [114, 111, 119]
abbrev wClause : List Nat := [99, 108, 97, 117, 115, 101]
abbrev wAt : List Nat := [97, 116]
abbrev wToday : List Nat := [116, 111, 100, 97, 121]
abbrev wHas : List Nat := [104, 97, 115]
abbrev zzlg : List Nat := [116, 114, 117, 101]
abbrev z8r : List Nat := [102, 97, 108, 115, 101]
abbrev zpt : List Nat := [109, 111, 110, 101, 121]
abbrev zhu : List Nat := [109, 105, 110, 117, 115]
abbrev z52 : List Nat := [100, 97, 121, 115]
abbrev zov : List Nat := [109, 111, 110, 116, 104, 115]
abbrev wLook : List Nat := [108, 111, 111, 107]
abbrev wMin : List Nat := [109, 105, 110]
abbrev wMax : List Nat := [109, 97, 120]
abbrev zzfo : List Nat := [98, 101, 116, 119, 101, 101, 110]
abbrev wIf : List Nat := [105, 102]
abbrev wRound : List Nat := [114, 111, 117, 110, 100]
abbrev zzfn : List Nat := [115, 101, 114, 118, 105, 99, 101]
abbrev wGrow : List Nat := [103, 114, 111, 119]
abbrev wBest : List Nat := [98, 101, 115, 116]
abbrev zzlh : List Nat := [110, 117, 109, 98, 101, 114]
abbrev wStart : List Nat := [115, 116, 97, 114, 116]
abbrev wKnown : List Nat := [107, 110, 111, 119, 110]
abbrev wIs : List Nat := [105, 115]
abbrev wFrom : List Nat := [102, 114, 111, 109]
abbrev wTo : List Nat := [116, 111]
abbrev wEnd : List Nat := [101, 110, 100]
abbrev wOff : List Nat := [111, 102, 102]
abbrev wWhen : List Nat := [119, 104, 101, 110]
abbrev wThen : List Nat := [116, 104, 101, 110]
abbrev wNot : List Nat := [110, 111, 116]
abbrev wAnd : List Nat := [97, 110, 100]
abbrev wOr : List Nat := [111, 114]
def l16 (n : Nat) : List Nat := if n = 0 then [] else n % 65536 :: l16 (n / 65536)
decreasing_by omega
def zyc (s : List Nat) : List Nat := zit (fun b => decide (b ≠ 47)) s
def z0k (s : List Nat) : List Nat := s.drop ((zyc s).length + 1)
def zcm (s : List Nat) : Bool := s.contains 47
def zib (neg : Bool) (n d : Nat) : zf9 := ⟨⟨neg && decide (0 < n), l16 (n / Nat.gcd n d)⟩, ⟨false, l16 (d / Nat.gcd n d)⟩⟩
def zsj (s : List Nat) (neg : Bool) : zf9 := zib neg (ze6 (zyc s)) (if zcm s then ze6 (z0k s) else 1)
def zvt : zf9 := ⟨⟨false, []⟩, ⟨false, []⟩⟩
def zz8 (s : List Nat) (neg : Bool) (lo hi : Int) : Option Int := (fun n : Int => if lo <= n /\ n <= hi then some n else none) (if neg then -(ze6 s : Int) else ze6 s)
def zws (s : List Nat) : Prop := s.length <= 200 /\ (∀ b ∈ zyc s, zba b = true) /\ zyc s ≠ [] /\ zd8 (zyc s) = false /\ (zcm s = true -> z0k s ≠ [] /\ (∀ b ∈ z0k s, zba b = true) /\ zd8 (z0k s) = false /\ z0k s ≠ [48])
def z5t (s : List Nat) : Prop := s.length = 10 /\ zdf s = true /\ ∃ n, zzid s = some n
def z6f (t : Tok) : Prop := (t.kind = 2 -> zws t.text) /\ (t.kind = 3 -> z5t t.text)
inductive PR (α : Type) where
 | ok (a : α) (n : Nat)
 | er (e : Nat) (i : Nat)
def PR.bind {α β : Type} : PR α -> (α -> Nat -> PR β) -> PR β
 | .ok a n, f => f a n
 | .er e i, _ => .er e i
abbrev PM (α : Type) := Nat -> PR α
section
variable (tk : List Tok)
def acc (w : List Nat) (n : Nat) : Bool := match tk[n]? with | some t => (decide (t.kind = 1) || decide (t.kind = 4)) && zem t.text w | none => false
def zks (k n : Nat) : Bool := match tk[n]? with | some t => decide (t.kind = k) | none => false
def zmf (n : Nat) : List Nat := match tk[n]? with | some t => t.text | none => []
def zts (k : Nat) : PM (List Nat) := fun n => if zks tk k n then .ok (zmf tk n) (n + 1) else .er 120 n
def dateP : PM Int := fun n => (zts tk 3 n).bind fun t n => .ok ((zzid t).getD 0 : Nat) n
def zuv (neg : Bool) : PM ztn := fun n => (zts tk 2 n).bind fun s n1 =>
 if acc tk z52 n1 || acc tk zov n1 then
  (if zcm s then .er 120 n1 else match zz8 s neg (-1048576) 1048576 with
   | none => .er 121 n
   | some i => .ok ⟨if acc tk z52 n1 then 5 else 6, zvt, i⟩ (n1 + 1))
 else .ok ⟨2, zsj s neg, 0⟩ n1
def z0m : PM (Option ztn) := fun n =>
 if acc tk zzlg n then .ok (some ⟨1, zvt, 1⟩) (n + 1)
 else if acc tk z8r n then .ok (some ⟨1, zvt, 0⟩) (n + 1)
 else if zks tk 3 n then (dateP tk n).bind fun d n1 => .ok (some ⟨4, zvt, d⟩) n1
 else if acc tk zpt n then (fun (neg : Bool) => (zts tk 2 (if neg then n + 2 else n + 1)).bind fun s n1 => .ok (some ⟨3, zsj s neg, 0⟩) n1) (acc tk zhu (n + 1))
 else if acc tk zhu n then (zuv tk true (n + 1)).bind fun v n1 => .ok (some v) n1
 else if zks tk 2 n then (zuv tk false n).bind fun v n1 => .ok (some v) n1
 else .ok none n
structure CF where
 word : List Nat
 op : Nat
 named : Bool
 least : Nat
 most : Nat
abbrev callFs : List CF := [⟨wLook, 6, true, 1, 2⟩, ⟨wMin, 11, false, 2, 2⟩, ⟨wMax, 12, false, 2, 2⟩, ⟨zzfo, 20, false, 2, 2⟩, ⟨wIf, 18, false, 3, 3⟩, ⟨wRound, 19, false, 2, 2⟩, ⟨zzfn, 21, true, 2, 2⟩, ⟨wGrow, 23, true, 2, 2⟩, ⟨wBest, 22, true, 3, 3⟩, ⟨zov, 24, false, 1, 1⟩, ⟨zzlh, 25, false, 1, 1⟩, ⟨wStart, 26, false, 1, 1⟩]
def modeN : Nat -> List Nat
 | 1 => [100, 111, 119, 110]
 | 2 => [117, 112]
 | 3 => [102, 108, 111, 111, 114]
 | 4 => [99, 101, 105, 108]
 | 5 => [104, 97, 108, 102]
 | 6 => [101, 118, 101, 110]
 | _ => []
def kindN : Nat -> List Nat
 | 1 => [116, 114, 117, 116, 104]
 | 2 => [110, 117, 109, 98, 101, 114]
 | 3 => [109, 111, 110, 101, 121]
 | 4 => [100, 97, 116, 101]
 | 5 => [100, 97, 121, 115]
 | 6 => [109, 111, 110, 116, 104, 115]
 | _ => []
def zzbf : PM Unit := fun n => (zts tk 5 n).bind fun _ n1 => if n1 < tk.length then .er 120 n1 else .ok () n1
def zya : PR ztn := (z0m tk 0).bind fun v n => match v with
 | none => .er 120 n
 | some v => (zzbf tk n).bind fun _ n1 => .ok v n1
end
end Go.Proofs
set_option maxRecDepth 100000
namespace Go.Proofs
open Go Go.Am
variable [zb1]
variable {t : Tr zav}
theorem iLe_d {a b : Int} : iLe a b = decide (a <= b) := by
 grind [zew]
theorem zsf {n : Nat} : pvC C30 F 36 [.int .u8 (n : Int)] t = some (.bool (zia n)) := by
 refine zbg.2 (w36 ?_)
 simp only [uFa, uTr, t36, wpT, iLe_d, decide_eq_true_eq]; grind [zia]
theorem zjt {n : Nat} : pvC C30 F 65 [.int .u8 (n : Int)] t = some (.bool (zba n)) := by
 refine zbg.2 (w65 ?_)
 simp only [uFa, t65, wpT, iLe_d, decide_eq_true_eq]; grind [zba]
theorem zsg {n : Nat} : pvC C30 F 38 [.int .u8 (n : Int)] t = some (.bool (zcr n)) := by
 refine zbg.2 (w38 ?_)
 simp only [uB, uTr, uY, t38, wpT, q36, zsf, zaa, zab.asBool]; unfold zcr
 cases h : zia n with
 | true => simp
 | false =>
  simp only [ybq, if_false, q65, zjt, zaa, zab.asBool]; grind [zc0, decide]
theorem zcl {s : List Nat} {i x : Nat} (h : s[i]? = some x) : zdv C30 9 (.str s) (.int .i64 (i : Int)) = some (.int .u8 (x : Int)) := by
 unfold zdv; rw [ty9, zad]; simp only [zab.asNat, zab.asInt, zab.asStr]; have e : ob (some (i : Int)) zjq = some i := rfl
 rw [e, zad, show zcy.isString .string = true from rfl, zar, zbs, h, zad]; rfl
theorem zwi {p : Nat -> Bool} {g : Nat} (hg : ∀ n : Nat, pvC C30 F g [.int .u8 (n : Int)] t = some (.bool (p n))) (hq : ∀ {a : List zab} {m : Tr zav} {R : zbo}, Wq C30 F zct g a m R = zf8 (pvC C30 F g a m) (fun v => R v m)) (hy : Nat.blt g pn = true) {s : List Nat} (hs : s.length < 4000000000000000000) :
  ∀ (k i : Nat), i + k = s.length -> (∀ j x, j < i -> s[j]? = some x -> p x = true) -> jp 37 2 [.str s, .func (.func g) [] [], .int .i64 (i : Int)] t (fun v t' => v = .str (zit p s) /\ t' = t) := by
 have key : ∀ i, i <= s.length -> (∀ j x, j < i -> s[j]? = some x -> p x = true) -> (∀ x, s[i]? = some x -> p x = false) -> zit p s = s.take i := by
  intro i hi h1 h2; unfold zit; induction s generalizing i with
  | nil => simp
  | cons a s ih =>
   cases i with
   | zero => simp_all
   | succ i =>
    rw [List.takeWhile_cons, h1 0 a (by omega) rfl, yab rfl, List.take_succ_cons]
    rw [ih (by grind) i (by simp_all) (fun j x hj hx => h1 (j + 1) x (by omega) (by simp_all)) (fun x hx => h2 x (by simp_all))]
 intro k; induction k with
 | zero =>
  intro i hi hp; refine j37_2 ?_
  simp only [uU, uB, uS, uIn, uZ, uY, zzl1, wpT, zcz, zzv]; grind [zj4, zaa, zab.asStr]
 | succ k ih =>
  intro i hi hp; have hx : s[i]? = some s[i] := ybd (by omega)
  refine j37_2 ?_
  simp only [uU, uB, uS, uIn, uZ, uY, zzl1, wpT, zcz, zzv]; rw [yab (by omega), zcl hx, zaa, zak, zaa]
  have e : zkx (.func (.func g) [] []) [.int .u8 (s[i] : Int)] = some (g, [.int .u8 (s[i] : Int)]) := by
   unfold zkx; simp only [zab.asFunc, zad, hy, zar]; rfl
  rw [e, zaa]; simp only []; rw [hq, hg, zaa]; simp only [zab.asBool, zaa]
  cases hb : p s[i] with
  | true =>
   rw [yab rfl, zan (by omega) (by omega), show (i : Int) + 1 = ((i + 1 : Nat) : Int) by omega]
   refine ih (i + 1) (by omega) fun j x hj hjx => ?_
   grind
  | false =>
   rw [yaa (by simp), zj4 (by omega), zaa]
   simp only [zab.asStr, zaa]; rw [key i (by omega) hp (fun x hx' => by simp_all)]
   simp_all
theorem zzgm {s : List Nat} (hs : s.length < 4000000000000000000) : pvC C30 F 37 [.str s, .func (.func 38) [] []] t = some (.str (zit zcr s)) := by
 refine zbg.2 (w37 ?_)
 simp only [uZ, t37, wpT]; exact zwi (fun n => zsg) (fun {a m R} => by rw [q38]) rfl hs s.length 0 (by omega) (fun j x hj => by omega)
theorem z3e {a b : List Nat} (h : a.length < 4294967281) : pvC C30 F 66 [.str a, .str b] t = some (.bool (zf5 b a)) := by
 have hg : C30.prims.get 66 = some (zk9 zjm) := by kernel_rfl
 refine zrv hg fun H => ?_
 unfold zjm; simp only []; rw [za1, zdk.2 h]; rfl
end Go.Proofs
namespace Go.Proofs
open Go Go.Am
variable [zb1]
def zuz (f : Nat) : Bool := zc6 f [29, 41, 42, 43, 46, 47, 48, 57, 58, 59, 60, 68, 69, 73, 75, 89, 90, 91, 96, 110, 112, 117, 135, 151, 161, 168, 180, 181, 187]
abbrev wpE (E : zbo) (f : Nat) (T : T) (m : Tr zav) (Q : zbo) : Prop := wpT C30.base (WqE C30 F zct zuz E) (JqE C30 F E f) T m Q
abbrev WfE (E : zbo) (f : Nat) (a : List zab) (m : Tr zav) (Q : zbo) : Prop := WcE C30 F E f a m Q
abbrev jpE (E : zbo) (f i : Nat) (a : List zab) (m : Tr zav) (Q : zbo) : Prop := JqE C30 F E f i a m Q
theorem pQ (f : Nat) (h : (zct f && Nat.blt f yo) = true := by kernel_rfl) {E : zbo} (a : List zab) (m : Tr zav) (R : zbo) : WqE C30 F zct zuz E f a m R = zf8 (pvC C30 F f a m) fun v => R v m := yab h
theorem pW (f : Nat) (h : (zct f && Nat.blt f yo) = false := by kernel_rfl) (h1 : Nat.beq f pn = false := by kernel_rfl) (h2 : (zuz f && Nat.blt f pn) = false := by kernel_rfl) {E : zbo} (a : List zab) (m : Tr zav) (R : zbo) : WqE C30 F zct zuz E f a m R = Wc C30 F f a m R := by unfold WqE; rw [h, h1, h2]; simp
theorem pE (f : Nat) (h : (zct f && Nat.blt f yo) = false := by kernel_rfl) (h1 : Nat.beq f pn = false := by kernel_rfl) (h2 : (zuz f && Nat.blt f pn) = true := by kernel_rfl) {E : zbo} (a : List zab) (m : Tr zav) (R : zbo) : WqE C30 F zct zuz E f a m R = WcE C30 F E f a m R := by unfold WqE; rw [h, h1, h2]; simp
theorem pX {E : zbo} (v : zab) (m : Tr zav) (R : zbo) (h : E v m) : WqE C30 F zct zuz E pn [v] m R := by unfold WqE; rw [show (zct pn && Nat.blt pn yo) = false by kernel_rfl, show Nat.beq pn pn = true by kernel_rfl]; simp [h]
def t43 (p0 : zab) : T :=
 .call 59 [p0, (.int .u8 5)] fun a0 =>
 .asG [(.int .u8 0), (.str []), (.int .i64 0), (.int .i64 0)] a0 fun X1 =>
 .opt (z3z p0) fun a2 => .opt (zas C30 121 1 a2) fun a3 => .light (fun m => zao C30 3 ⟨0, m⟩ a3) fun a4 => .asI .i64 a4 fun n5 => .opt (z3z p0) fun a6 => .opt (zas C30 121 0 a6) fun a7 => .light (fun m => zao C30 66 ⟨0, m⟩ a7) fun a8 => .opt (zb6 a8) fun a9 => .asI .i64 a9 fun n10 => .ite (iLt n5 n10)
 (.call 48 [p0, (.int .i64 120)] fun a11 =>
 .ret (.tup []))
 (.ret (.tup []))
theorem e43 (p0 : zab) : zzfg C30 (fo 43) (ko 43) 43 (ao 43) [p0] = t43 p0 := by kernel_rfl
theorem w43 (p0 : zab) {E : zbo} {m : Tr zav} {Q : zbo} (h : wpE E 43 (t43 p0) m Q) : WfE E 43 [p0] m Q := zqa (zlq (by kernel_rfl)) zig (okA 43) (.inr (by kernel_rfl)) (by kernel_rfl) (by rw [e43]; exact h)
def t46 (p0 : zab) : T :=
 .call 47 [p0] fun a0 =>
 .opt (zb3 0 a0) fun a1 => .asG [(.int .u8 0), (.bool false), .nilslice, (.bool false), .nilslice, (.int .i64 0)] a1 fun X2 =>
 .opt (zb3 1 a0) fun a3 => .asB a3 fun b4 => .ite (zfh zab.one [(.int .u8 (X2.i 0)), (.bool (X2.b 1)), (X2.v 2), (.bool (X2.b 3)), (X2.v 4), (.int .i64 (X2.i 5))]) (.ite (!b4)
 (.call 48 [p0, (.int .i64 120)] fun a5 =>
 .call 43 [p0] fun a6 =>
 .ite (zfh zab.one [(.int .u8 (X2.i 0)), (.bool (X2.b 1)), (X2.v 2), (.bool (X2.b 3)), (X2.v 4), (.int .i64 (X2.i 5))]) (.ret (.agg [(.int .u8 (X2.i 0)), (.bool (X2.b 1)), (X2.v 2), (.bool (X2.b 3)), (X2.v 4), (.int .i64 (X2.i 5))])) .fail)
 (.call 43 [p0] fun a7 =>
 .ite (zfh zab.one [(.int .u8 (X2.i 0)), (.bool (X2.b 1)), (X2.v 2), (.bool (X2.b 3)), (X2.v 4), (.int .i64 (X2.i 5))]) (.ret (.agg [(.int .u8 (X2.i 0)), (.bool (X2.b 1)), (X2.v 2), (.bool (X2.b 3)), (X2.v 4), (.int .i64 (X2.i 5))])) .fail)) .fail
theorem e46 (p0 : zab) : zzfg C30 (fo 46) (ko 46) 46 (ao 46) [p0] = t46 p0 := by kernel_rfl
theorem w46 (p0 : zab) {E : zbo} {m : Tr zav} {Q : zbo} (h : wpE E 46 (t46 p0) m Q) : WfE E 46 [p0] m Q := zqa (zlq (by kernel_rfl)) zig (okA 46) (.inr (by kernel_rfl)) (by kernel_rfl) (by rw [e46]; exact h)
def t47 (p0 : zab) : T :=
 .call 71 [p0] fun a0 =>
 .asG [(.int .u8 0), (.str []), (.int .i64 0), (.int .i64 0)] a0 fun X1 =>
 .ite true (.call 72 [p0, (.str [116, 114, 117, 101])] fun a2 =>
 .asB a2 fun b3 => .ite b3
 (.ite true (.ite true (.ret (.tup [(.agg [(.int .u8 1), (.bool false), .nilslice, (.bool false), .nilslice, (.int .i64 1)]), (.bool true)])) .fail) .fail)
 (.call 72 [p0, (.str [102, 97, 108, 115, 101])] fun a4 =>
 .asB a4 fun b5 => .ite b5
 (.ite true (.ite true (.ret (.tup [(.agg [(.int .u8 1), (.bool false), .nilslice, (.bool false), .nilslice, (.int .i64 0)]), (.bool true)])) .fail) .fail)
 (.ite (iEq (X1.i 0) 3)
 (.call 73 [p0] fun a6 =>
 .asI .i64 a6 fun n7 => .ite true (.ite true (.ret (.tup [(.agg [(.int .u8 4), (.bool false), .nilslice, (.bool false), .nilslice, (.int .i64 n7)]), (.bool true)])) .fail) .fail)
 (.call 72 [p0, (.str [109, 111, 110, 101, 121])] fun a8 =>
 .asB a8 fun b9 => .ite b9
 (.call 72 [p0, (.str [109, 105, 110, 117, 115])] fun a10 =>
 .asB a10 fun b11 => .call 59 [p0, (.int .u8 2)] fun a12 =>
 .asG [(.int .u8 0), (.str []), (.int .i64 0), (.int .i64 0)] a12 fun X13 =>
 .call 74 [(.str (X13.s 1)), (.bool b11)] fun a14 =>
 .asG [(.bool false), .nilslice, (.bool false), .nilslice] a14 fun X15 =>
 .ite true (.ite (zfh zab.one [(.int .u8 3), (.bool (X15.b 0)), (X15.v 1), (.bool (X15.b 2)), (X15.v 3), (.int .i64 0)]) (.ret (.tup [(.agg [(.int .u8 3), (.bool (X15.b 0)), (X15.v 1), (.bool (X15.b 2)), (X15.v 3), (.int .i64 0)]), (.bool true)])) .fail) .fail)
 (.call 72 [p0, (.str [109, 105, 110, 117, 115])] fun a16 =>
 .asB a16 fun b17 => .ite b17
 (.call 75 [p0, (.bool true)] fun a18 =>
 .asG [(.int .u8 0), (.bool false), .nilslice, (.bool false), .nilslice, (.int .i64 0)] a18 fun X19 =>
 .ite (zfh zab.one [(.int .u8 (X19.i 0)), (.bool (X19.b 1)), (X19.v 2), (.bool (X19.b 3)), (X19.v 4), (.int .i64 (X19.i 5))]) (.ret (.tup [(.agg [(.int .u8 (X19.i 0)), (.bool (X19.b 1)), (X19.v 2), (.bool (X19.b 3)), (X19.v 4), (.int .i64 (X19.i 5))]), (.bool true)])) .fail)
 (.ite (iEq (X1.i 0) 2)
 (.call 75 [p0, (.bool false)] fun a20 =>
 .asG [(.int .u8 0), (.bool false), .nilslice, (.bool false), .nilslice, (.int .i64 0)] a20 fun X21 =>
 .ite (zfh zab.one [(.int .u8 (X21.i 0)), (.bool (X21.b 1)), (X21.v 2), (.bool (X21.b 3)), (X21.v 4), (.int .i64 (X21.i 5))]) (.ret (.tup [(.agg [(.int .u8 (X21.i 0)), (.bool (X21.b 1)), (X21.v 2), (.bool (X21.b 3)), (X21.v 4), (.int .i64 (X21.i 5))]), (.bool true)])) .fail)
 (.ite true (.ite true (.ret (.tup [(.agg [(.int .u8 0), (.bool false), .nilslice, (.bool false), .nilslice, (.int .i64 0)]), (.bool false)])) .fail) .fail))))))) .fail
theorem e47 (p0 : zab) : zzfg C30 (fo 47) (ko 47) 47 (ao 47) [p0] = t47 p0 := by kernel_rfl
theorem w47 (p0 : zab) {E : zbo} {m : Tr zav} {Q : zbo} (h : wpE E 47 (t47 p0) m Q) : WfE E 47 [p0] m Q := zqa (zlq (by kernel_rfl)) zig (okA 47) (.inr (by kernel_rfl)) (by kernel_rfl) (by rw [e47]; exact h)
def t48 (p0 : zab) (p1 : Int) : T :=
 .call 71 [p0] fun a0 =>
 .asG [(.int .u8 0), (.str []), (.int .i64 0), (.int .i64 0)] a0 fun X1 =>
 .ite true (.call pn [(.iface 123 (.agg [(.int .i64 (X1.i 2)), (.int .i64 (X1.i 3)), (.int .i64 p1)]))] fun a2 =>
 .ret (.tup [])) .fail
theorem e48 (p0 : zab) (p1 : Int) : zzfg C30 (fo 48) (ko 48) 48 (ao 48) [p0, (.int .i64 p1)] = t48 p0 p1 := by kernel_rfl
theorem w48 (p0 : zab) (p1 : Int) {E : zbo} {m : Tr zav} {Q : zbo} (h : wpE E 48 (t48 p0 p1) m Q) : WfE E 48 [p0, (.int .i64 p1)] m Q := zqa (zlq (by kernel_rfl)) zig (okA 48) (.inr (by kernel_rfl)) (by kernel_rfl) (by rw [e48]; exact h)
def t59 (p0 : zab) (p1 : Int) : T :=
 .call 71 [p0] fun a0 =>
 .asG [(.int .u8 0), (.str []), (.int .i64 0), (.int .i64 0)] a0 fun X1 =>
 .ite true (.ite (!iEq (X1.i 0) p1)
 (.call 48 [p0, (.int .i64 120)] fun a2 =>
 .jump 9 [p0, (.int .u8 0), (.str []), (.int .i64 0), (.int .i64 0), (.int .u8 (X1.i 0)), (.str (X1.s 1)), (.int .i64 (X1.i 2)), (.int .i64 (X1.i 3))])
 (.jump 9 [p0, (.int .u8 0), (.str []), (.int .i64 0), (.int .i64 0), (.int .u8 (X1.i 0)), (.str (X1.s 1)), (.int .i64 (X1.i 2)), (.int .i64 (X1.i 3))])) .fail
theorem e59 (p0 : zab) (p1 : Int) : zzfg C30 (fo 59) (ko 59) 59 (ao 59) [p0, (.int .u8 p1)] = t59 p0 p1 := by kernel_rfl
theorem w59 (p0 : zab) (p1 : Int) {E : zbo} {m : Tr zav} {Q : zbo} (h : wpE E 59 (t59 p0 p1) m Q) : WfE E 59 [p0, (.int .u8 p1)] m Q := zqa (zlq (by kernel_rfl)) zig (okA 59) (.inr (by kernel_rfl)) (by kernel_rfl) (by rw [e59]; exact h)
def zzl0 (v0 : zab) (c4_0 : Int) (c4_1 : List Nat) (c4_2 : Int) (c4_3 : Int) (c5_0 : Int) (c5_1 : List Nat) (c5_2 : Int) (c5_3 : Int) : T :=
 .opt (z3z v0) fun a0 => .opt (zas C30 121 1 a0) fun a1 => .light (fun m => zao C30 3 ⟨0, m⟩ a1) fun a2 => .asI .i64 a2 fun n3 => .opt (z3z v0) fun a4 => .opt (zas C30 121 1 a4) fun a5 => .heavy (za0 C30 3 a5 (.int .i64 (zal .i64 (n3 + 1)))) fun _ =>
 .ite true (.ret (.agg [(.int .u8 c5_0), (.str c5_1), (.int .i64 c5_2), (.int .i64 c5_3)])) .fail
theorem e59_9 (v0 : zab) (c4_0 : Int) (c4_1 : List Nat) (c4_2 : Int) (c4_3 : Int) (c5_0 : Int) (c5_1 : List Nat) (c5_2 : Int) (c5_3 : Int) : zwl (zzme C30 (fo 59) (ko 59) 59 (ao 59)) 9 [v0, (.int .u8 c4_0), (.str c4_1), (.int .i64 c4_2), (.int .i64 c4_3), (.int .u8 c5_0), (.str c5_1), (.int .i64 c5_2), (.int .i64 c5_3)] = [zzl0 v0 c4_0 c4_1 c4_2 c4_3 c5_0 c5_1 c5_2 c5_3] := by kernel_rfl
theorem j59_9 (v0 : zab) (c4_0 : Int) (c4_1 : List Nat) (c4_2 : Int) (c4_3 : Int) (c5_0 : Int) (c5_1 : List Nat) (c5_2 : Int) (c5_3 : Int) {E : zbo} {m : Tr zav} {Q : zbo} (h : wpE E 59 (zzl0 v0 c4_0 c4_1 c4_2 c4_3 c5_0 c5_1 c5_2 c5_3) m Q) : jpE E 59 9 [v0, (.int .u8 c4_0), (.str c4_1), (.int .i64 c4_2), (.int .i64 c4_3), (.int .u8 c5_0), (.str c5_1), (.int .i64 c5_2), (.int .i64 c5_3)] m Q := zx6 (zlq (by kernel_rfl)) zig (okA 59) (.inr (by kernel_rfl)) (e59_9 v0 c4_0 c4_1 c4_2 c4_3 c5_0 c5_1 c5_2 c5_3) h
def t73 (p0 : zab) : T :=
 .call 59 [p0, (.int .u8 3)] fun a0 =>
 .asG [(.int .u8 0), (.str []), (.int .i64 0), (.int .i64 0)] a0 fun X1 =>
 .call 97 [(.str (X1.s 1))] fun a2 =>
 .opt (zb3 0 a2) fun a3 => .asI .i64 a3 fun n4 => .opt (zb3 1 a2) fun a5 => .asI .i64 a5 fun n6 => .ret (.int .i64 n4)
theorem e73 (p0 : zab) : zzfg C30 (fo 73) (ko 73) 73 (ao 73) [p0] = t73 p0 := by kernel_rfl
theorem w73 (p0 : zab) {E : zbo} {m : Tr zav} {Q : zbo} (h : wpE E 73 (t73 p0) m Q) : WfE E 73 [p0] m Q := zqa (zlq (by kernel_rfl)) zig (okA 73) (.inr (by kernel_rfl)) (by kernel_rfl) (by rw [e73]; exact h)
def t75 (p0 : zab) (p1 : Bool) : T :=
 .opt (z3z p0) fun a0 => .opt (zas C30 121 1 a0) fun a1 => .light (fun m => zao C30 3 ⟨0, m⟩ a1) fun a2 => .asI .i64 a2 fun n3 => .call 59 [p0, (.int .u8 2)] fun a4 =>
 .asG [(.int .u8 0), (.str []), (.int .i64 0), (.int .i64 0)] a4 fun X5 =>
 .ite true (.opt (z3z p0) fun a6 => .opt (zas C30 121 1 a6) fun a7 => .light (fun m => zao C30 3 ⟨0, m⟩ a7) fun a8 => .asI .i64 a8 fun n9 => .call 72 [p0, (.str [100, 97, 121, 115])] fun a10 =>
 .asB a10 fun b11 => .ite b11
 (.jump 21 [p0, (.bool p1), (.int .i64 n3), (.int .u8 5), (.int .i64 n9), (.int .u8 0), (.bool false), .nilslice, (.bool false), .nilslice, (.int .i64 0), (.int .u8 (X5.i 0)), (.str (X5.s 1)), (.int .i64 (X5.i 2)), (.int .i64 (X5.i 3))])
 (.call 72 [p0, (.str [109, 111, 110, 116, 104, 115])] fun a12 =>
 .asB a12 fun b13 => .ite b13
 (.jump 21 [p0, (.bool p1), (.int .i64 n3), (.int .u8 6), (.int .i64 n9), (.int .u8 0), (.bool false), .nilslice, (.bool false), .nilslice, (.int .i64 0), (.int .u8 (X5.i 0)), (.str (X5.s 1)), (.int .i64 (X5.i 2)), (.int .i64 (X5.i 3))])
 (.call 74 [(.str (X5.s 1)), (.bool p1)] fun a14 =>
 .asG [(.bool false), .nilslice, (.bool false), .nilslice] a14 fun X15 =>
 .ite true (.ite (zfh zab.one [(.int .u8 2), (.bool (X15.b 0)), (X15.v 1), (.bool (X15.b 2)), (X15.v 3), (.int .i64 0)]) (.ret (.agg [(.int .u8 2), (.bool (X15.b 0)), (X15.v 1), (.bool (X15.b 2)), (X15.v 3), (.int .i64 0)])) .fail) .fail))) .fail
theorem e75 (p0 : zab) (p1 : Bool) : zzfg C30 (fo 75) (ko 75) 75 (ao 75) [p0, (.bool p1)] = t75 p0 p1 := by kernel_rfl
theorem w75 (p0 : zab) (p1 : Bool) {E : zbo} {m : Tr zav} {Q : zbo} (h : wpE E 75 (t75 p0 p1) m Q) : WfE E 75 [p0, (.bool p1)] m Q := zqa (zlq (by kernel_rfl)) zig (okA 75) (.inr (by kernel_rfl)) (by kernel_rfl) (by rw [e75]; exact h)
def z9f (v0 : zab) (v1 : Bool) (v5 : Int) (v7 : Int) (v8 : Int) (c4_0 : Int) (c4_1 : Bool) (c4_2 : zab) (c4_3 : Bool) (c4_4 : zab) (c4_5 : Int) (c6_0 : Int) (c6_1 : List Nat) (c6_2 : Int) (c6_3 : Int) : T :=
 .call 66 [(.str c6_1), (.str [47])] fun a0 =>
 .asB a0 fun b1 => .ite b1
 (.opt (z3z v0) fun a2 => .opt (zas C30 121 1 a2) fun a3 => .heavy (za0 C30 3 a3 (.int .i64 v8)) fun _ =>
 .call 48 [v0, (.int .i64 120)] fun a4 =>
 .jump 27 [v0, (.bool v1), (.int .i64 v5), (.int .u8 v7), (.int .u8 c4_0), (.bool c4_1), c4_2, (.bool c4_3), c4_4, (.int .i64 c4_5), (.int .u8 c6_0), (.str c6_1), (.int .i64 c6_2), (.int .i64 c6_3)])
 (.jump 27 [v0, (.bool v1), (.int .i64 v5), (.int .u8 v7), (.int .u8 c4_0), (.bool c4_1), c4_2, (.bool c4_3), c4_4, (.int .i64 c4_5), (.int .u8 c6_0), (.str c6_1), (.int .i64 c6_2), (.int .i64 c6_3)])
theorem e75_21 (v0 : zab) (v1 : Bool) (v5 : Int) (v7 : Int) (v8 : Int) (c4_0 : Int) (c4_1 : Bool) (c4_2 : zab) (c4_3 : Bool) (c4_4 : zab) (c4_5 : Int) (c6_0 : Int) (c6_1 : List Nat) (c6_2 : Int) (c6_3 : Int) : zwl (zzme C30 (fo 75) (ko 75) 75 (ao 75)) 21 [v0, (.bool v1), (.int .i64 v5), (.int .u8 v7), (.int .i64 v8), (.int .u8 c4_0), (.bool c4_1), c4_2, (.bool c4_3), c4_4, (.int .i64 c4_5), (.int .u8 c6_0), (.str c6_1), (.int .i64 c6_2), (.int .i64 c6_3)] = [z9f v0 v1 v5 v7 v8 c4_0 c4_1 c4_2 c4_3 c4_4 c4_5 c6_0 c6_1 c6_2 c6_3] := by kernel_rfl
theorem j75_21 (v0 : zab) (v1 : Bool) (v5 : Int) (v7 : Int) (v8 : Int) (c4_0 : Int) (c4_1 : Bool) (c4_2 : zab) (c4_3 : Bool) (c4_4 : zab) (c4_5 : Int) (c6_0 : Int) (c6_1 : List Nat) (c6_2 : Int) (c6_3 : Int) {E : zbo} {m : Tr zav} {Q : zbo} (h : wpE E 75 (z9f v0 v1 v5 v7 v8 c4_0 c4_1 c4_2 c4_3 c4_4 c4_5 c6_0 c6_1 c6_2 c6_3) m Q) : jpE E 75 21 [v0, (.bool v1), (.int .i64 v5), (.int .u8 v7), (.int .i64 v8), (.int .u8 c4_0), (.bool c4_1), c4_2, (.bool c4_3), c4_4, (.int .i64 c4_5), (.int .u8 c6_0), (.str c6_1), (.int .i64 c6_2), (.int .i64 c6_3)] m Q := zx6 (zlq (by kernel_rfl)) zig (okA 75) (.inr (by kernel_rfl)) (e75_21 v0 v1 v5 v7 v8 c4_0 c4_1 c4_2 c4_3 c4_4 c4_5 c6_0 c6_1 c6_2 c6_3) h
def z9e (v0 : zab) (v1 : Bool) (v5 : Int) (v7 : Int) (c4_0 : Int) (c4_1 : Bool) (c4_2 : zab) (c4_3 : Bool) (c4_4 : zab) (c4_5 : Int) (c6_0 : Int) (c6_1 : List Nat) (c6_2 : Int) (c6_3 : Int) : T :=
 .call 102 [(.str c6_1), (.bool v1), (.int .i64 (-1048576)), (.int .i64 1048576)] fun a0 =>
 .opt (zb3 0 a0) fun a1 => .asI .i64 a1 fun n2 => .opt (zb3 1 a0) fun a3 => .asB a3 fun b4 => .ite (!b4)
 (.opt (z3z v0) fun a5 => .opt (zas C30 121 1 a5) fun a6 => .heavy (za0 C30 3 a6 (.int .i64 v5)) fun _ =>
 .call 48 [v0, (.int .i64 121)] fun a7 =>
 .ite true (.ite true (.ret (.agg [(.int .u8 v7), (.bool false), .nilslice, (.bool false), .nilslice, (.int .i64 n2)])) .fail) .fail)
 (.ite true (.ite true (.ret (.agg [(.int .u8 v7), (.bool false), .nilslice, (.bool false), .nilslice, (.int .i64 n2)])) .fail) .fail)
theorem e75_27 (v0 : zab) (v1 : Bool) (v5 : Int) (v7 : Int) (c4_0 : Int) (c4_1 : Bool) (c4_2 : zab) (c4_3 : Bool) (c4_4 : zab) (c4_5 : Int) (c6_0 : Int) (c6_1 : List Nat) (c6_2 : Int) (c6_3 : Int) : zwl (zzme C30 (fo 75) (ko 75) 75 (ao 75)) 27 [v0, (.bool v1), (.int .i64 v5), (.int .u8 v7), (.int .u8 c4_0), (.bool c4_1), c4_2, (.bool c4_3), c4_4, (.int .i64 c4_5), (.int .u8 c6_0), (.str c6_1), (.int .i64 c6_2), (.int .i64 c6_3)] = [z9e v0 v1 v5 v7 c4_0 c4_1 c4_2 c4_3 c4_4 c4_5 c6_0 c6_1 c6_2 c6_3] := by kernel_rfl
theorem j75_27 (v0 : zab) (v1 : Bool) (v5 : Int) (v7 : Int) (c4_0 : Int) (c4_1 : Bool) (c4_2 : zab) (c4_3 : Bool) (c4_4 : zab) (c4_5 : Int) (c6_0 : Int) (c6_1 : List Nat) (c6_2 : Int) (c6_3 : Int) {E : zbo} {m : Tr zav} {Q : zbo} (h : wpE E 75 (z9e v0 v1 v5 v7 c4_0 c4_1 c4_2 c4_3 c4_4 c4_5 c6_0 c6_1 c6_2 c6_3) m Q) : jpE E 75 27 [v0, (.bool v1), (.int .i64 v5), (.int .u8 v7), (.int .u8 c4_0), (.bool c4_1), c4_2, (.bool c4_3), c4_4, (.int .i64 c4_5), (.int .u8 c6_0), (.str c6_1), (.int .i64 c6_2), (.int .i64 c6_3)] m Q := zx6 (zlq (by kernel_rfl)) zig (okA 75) (.inr (by kernel_rfl)) (e75_27 v0 v1 v5 v7 c4_0 c4_1 c4_2 c4_3 c4_4 c4_5 c6_0 c6_1 c6_2 c6_3) h
end Go.Proofs
namespace Go.Am
open Go Go.RowKit
section
variable {base : Nat} {W J : zd3} {t : Tr zav} {Q : zbo}
theorem zag {b : Bool} {x y : T} (h : b = true) (k : wpT base W J x t Q) : wpT base W J (.ite b x y) t Q := by
 show if b = true then _ else _; simp_all
theorem zaz {b : Bool} {x y : T} (h : b ≠ true) (k : wpT base W J y t Q) : wpT base W J (.ite b x y) t Q := by
 show if b = true then _ else _; simp_all
theorem zah {x : Option zab} {K : zab -> T} {v : zab} (h : x = some v) (k : wpT base W J (K v) t Q) : wpT base W J (.opt x K) t Q := by
 show zf8 x _; simp_all
theorem zat {x : Tr zav -> Option zab} {K : zab -> T} {v : zab} (h : x t = some v) (k : wpT base W J (K v) t Q) : wpT base W J (.light x K) t Q := by
 show zf8 (x t) _; simp_all
theorem zam {f : Nat} {a : List zab} {K : zab -> T} (k : W f a t (fun v t' => wpT base W J (K v) t' Q)) : wpT base W J (.call f a K) t Q := k
theorem zaw {n : Int} {i : IntKind} {K : Int -> T} (k : wpT base W J (K n) t Q) : wpT base W J (.asI i (.int i n) K) t Q := by
 show zf8 (intK i (.int i n)) _; rw [zak]; exact k
theorem zcf {b : Bool} {K : Bool -> T} (k : wpT base W J (K b) t Q) : wpT base W J (.asB (.bool b) K) t Q := k
theorem zcc {s : List Nat} {K : List Nat -> T} (k : wpT base W J (K s) t Q) : wpT base W J (.asS (.str s) K) t Q := k
theorem zbq {zs : List zab} {a : zab} {K : zg6 -> T} {X : zg6} (h : zt6 zs a = some X) (k : wpT base W J (K X) t Q) : wpT base W J (.asG zs a K) t Q := by
 show zf8 (zt6 zs a) _; simp_all
theorem zau {x : zaf -> Option (zab × zaf)} {K : zab -> T} (k : ∀ b, t.get b = none -> base <= b -> ∃ v H, x ⟨b, t⟩ = some (v, H) /\ wpT base W J (K v) H.t Q) : wpT base W J (.heavy x K) t Q := by
 intro b h1 h2; obtain ⟨v, H, h3, h4⟩ := k b h1 h2
 simp_all
theorem za3 {i : Nat} {a : List zab} (k : J i a t Q) : wpT base W J (.jump i a) t Q := k
end
section
variable {t : Tr zav} {C : Ctx}
theorem zvq.mid {T el sz : Nat} {agg : Bool} (h : zvq C T el sz agg) {l : List D} {v : zab} (hr : RSl t sz l v) {k : Nat} {d : D} (hk : l[k]? = some d) :
  ∃ v', zcb C T ⟨0, t⟩ v (some (.int .i64 (k : Int))) (some (.int .i64 ((k + 1 : Nat) : Int))) = some v' /\ RSl t sz [d] v' := by
 obtain ⟨⟨y, hy1, hy2⟩, ⟨z, hz1, hz2, hz3⟩⟩ := h
 obtain ⟨cl, he, hd⟩ := hr
 have hlen := hd.length
 have hlt := (ybc.1 hk).1
 obtain ⟨cs, hc, hrd⟩ := hd.get hk
 unfold zcb; rw [hy1, zad]; have hb : ∀ (y n : Nat), zlp y (.int .i64 (n : Int)) = zaj (Nat.ble n y) (some n) := fun y n => rfl
 rcases he with ⟨rfl, rfl⟩ | ⟨b, off, cap, rfl, hcap, ⟨c, n, lo, hg, hlo⟩, he⟩
 ·grind
 ·refine ⟨.slice b (off + k * sz) 1 (cap - k), ?_, [cs], .inr ⟨b, off + k * sz, cap - k, rfl, by grind, ⟨c, n, lo, hg, hlo⟩, fun i q hi => ?_⟩, zcg.2 ⟨cs, [], rfl, hrd, zdl.2 rfl⟩⟩
  ·unfold zga
   simp only [zab.asStr, zab.asSlice]; rw [hy2, zad]; unfold zd7; rw [hz1, zad]; unfold zfj zom; simp only [hb]; rw [zg3.2 (show k + 1 <= cap by omega)]
   simp only [zar, zad]; rw [zg3.2 (show k <= k + 1 by omega)]
   simp only [zar, zad]; have hne : Nat.beq cap k = false := by
    grind [zds]
   have he2 : zdj ⟨0, t⟩ b z.size cap k false = false := by
    grind [zdj]
   rw [he2, yay, cond_false]; have hf : zc2 ⟨0, t⟩ b z.size cap k false = true := by
    unfold zc2 zax; rw [hg, zad]; simp only [zav.asCells]; rcases hlo with rfl | ⟨x, rfl, hx⟩
    all_goals simp_all
   rw [zg3.2 (show k + 1 <= cap by omega), hf, hne, hz2]
   simp only [Bool.and_self, zar, cond_false]; rw [show k + 1 - k = 1 by omega]
  grind
end
end Go.Am
namespace Go.Am
open Go Go.RowKit
section
variable {t tf : Tr zav} {C : Ctx} {base : Nat}
theorem zzgj {α : Type} {A B : List α} {x y : α} {n : Nat} (h : A.length = n) : (A ++ x :: B).set n y = A ++ y :: B := by
 subst h; rw [List.set_append_right _ _ (ybk _), Nat.sub_self, List.set_cons_zero]
theorem zbe.newCel {A B : List Thg} {n : Nat} {t' : Tr zav} {lo : Option Lo} {cs : List zab} (h : zbe base tf t (A ++ B)) (hn : t.get n = none) (hb : base <= n) (hc : Cel t' n lo cs) (ht : TLe t t') (ho : Off n t t') : zbe base tf t' (A ++ zes n lo cs :: B) :=
 zbe.add (o' := zes n lo cs) h (fun k hk => ho k (fun e => hk (by simp [zes, e]))) (fun k hk => by
  grind [zes]) hc (by simp [zes]) (h.tle.trans ht)
theorem zbe.cel {A B : List Thg} {n : Nat} {lo : Option Lo} {cs : List zab} (h : zbe base tf t (A ++ zes n lo cs :: B)) : Cel t n lo cs := h.ok (zes n lo cs) (by simp)
theorem zbe.setCel {A B : List Thg} {n j T : Nat} {lo : Option Lo} {cs : List zab} {y : ATy} {v : zab} (h : zbe C.base tf t (A ++ zes n lo cs :: B)) (hT : C.tys.get T = some y) (hl : v.cells.length = y.size) (hj : j + v.cells.length <= cs.length) (hone : zfh zab.one v.cells = true) :
  ∃ t', (∀ q, za0 C T (.ptr n j) v ⟨q, t⟩ = some (zbj, ⟨q, t'⟩)) /\ zbe C.base tf t' (A ++ zes n lo (zl9 cs j v.cells) :: B) := by
 have hlow := h.low n (by simp [zes])
 obtain ⟨t', s1, s2, s3⟩ := h.cel.store (C := C) hlow.1 (j := j) (v := v) hT hl hj hone
 exact ⟨t', s1, zbe.upd (o := zes n lo cs) (o' := zes n lo (zl9 cs j v.cells)) h (fun k h1 _ => s3 k (fun e => h1 (by simp [zes, e]))) (fun k hk => .inl hk) s2 (by simp [zes]) (h.tle.off hlow.2 s3)⟩
end
end Go.Am
namespace Go.Proofs
open Go Go.Am
variable [zb1]
def Tok.d (t : Tok) : D := .st [.int .u8 (t.kind : Int), .str t.text, .int .i64 (t.line : Int), .int .i64 (t.col : Int)]
def Tok.cs (t : Tok) : List zab := [.int .u8 (t.kind : Int), .str t.text, .int .i64 (t.line : Int), .int .i64 (t.col : Int)]
theorem rd_tok {t : Tr zav} {x : Tok} {cs : List zab} (h : RD t x.d cs) : cs = x.cs := by
 grind [Tok.d, Tok.cs, zql, zcg, zdl, zvr, zkv]
structure z8a where
 tk : List Tok
 bp : Nat
 ts : zab
 el : Nat
 ec : Nat
 L : List Thg
abbrev oPar (P : z8a) (n d : Nat) : Thg := zes P.bp none [P.ts, .int .i64 (n : Int), .int .i64 (d : Int), .int .i64 (P.el : Int), .int .i64 (P.ec : Int)]
def zfc (t : Tr zav) : Prop := At t 1 0 ((List.range 7).map fun i => .str (kindN i)) /\ At t 4 0 ((List.range 7).map fun i => .str (modeN i)) /\ At t 2 0 (zzb6.map fun (n : Nat) => .int .i64 (n : Int))
theorem zfc.mono {t t' : Tr zav} (h : zfc t) (hl : TLe t t') : zfc t' := ⟨h.1.mono hl, h.2.1.mono hl, h.2.2.mono hl⟩
structure St (P : z8a) (tf t : Tr zav) (n d : Nat) : Prop where
 ts : RSl tf 4 (P.tk.map Tok.d) P.ts
 ob : zbe C30.base tf t (oPar P n d :: P.L)
 len : P.tk.length < 1000000
 le : n <= P.tk.length
 good : ∀ x ∈ P.tk, z6f x
 glob : zfc tf
def zfo (P : z8a) (i : Nat) : Tok := (P.tk[i]?).getD ⟨0, [], P.el, P.ec⟩
def zzno (P : z8a) (e i : Nat) : zab := .iface 123 (.agg [.int .i64 ((zfo P i).line : Int), .int .i64 ((zfo P i).col : Int), .int .i64 (e : Int)])
def Ok {α : Type} (P : z8a) (rd : Tr zav -> α -> zab -> Prop) (d : Nat) (tf : Tr zav) (r : PR α) (Q E : zbo) : Prop :=
 match r with
 | .ok a n => ∀ tf' t' v, TLe tf tf' -> St P tf' t' n d -> rd tf' a v -> Q v t'
 | .er e i => ∀ tf' t' n' d', TLe tf tf' -> St P tf' t' n' d' -> E (zzno P e i) t'
section
variable {P : z8a} {tf t : Tr zav} {n d : Nat} {Q E : zbo}
theorem Ok.mono {α : Type} {rd : Tr zav -> α -> zab -> Prop} {r : PR α} (h : Ok P rd d tf r Q E) {tf' : Tr zav} (hl : TLe tf tf') : Ok P rd d tf' r Q E := by
 cases r with
 | ok a n => exact fun tf2 t' v k1 k2 k3 => h tf2 t' v (hl.trans k1) k2 k3
 | er e i => exact fun tf2 t' n' d' k1 k2 => h tf2 t' n' d' (hl.trans k1) k2
theorem Ok.bind {α β : Type} {rd1 : Tr zav -> α -> zab -> Prop} {rd : Tr zav -> β -> zab -> Prop} {r : PR α} {f : α -> Nat -> PR β} {Q1 : zbo} (h : Ok P rd d tf (r.bind f) Q E)
  (k : ∀ a n1 tf1 t1 v, r = .ok a n1 -> TLe tf tf1 -> St P tf1 t1 n1 d -> rd1 tf1 a v -> Ok P rd d tf1 (f a n1) Q E -> Q1 v t1) : Ok P rd1 d tf r Q1 E := by
 cases r with
 | ok a n => exact fun tf' t' v h1 h2 h3 => k a n tf' t' v rfl h1 h2 h3 (Ok.mono h h1)
 | er e i => exact h
theorem Ok.now {α : Type} {rd : Tr zav -> α -> zab -> Prop} {a : α} {v : zab} (h : Ok P rd d tf (.ok a n) Q E) (hst : St P tf t n d) (hr : rd tf a v) : Q v t := h tf t v (TLe.refl _) hst hr
theorem Ok.err {α : Type} {rd : Tr zav -> α -> zab -> Prop} {e i : Nat} (h : Ok P rd d tf (.er e i) Q E) {n' d' : Nat} (hst : St P tf t n' d') : E (zzno P e i) t := h tf t n' d' (TLe.refl _) hst
theorem St.cel (h : St P tf t n d) : Cel t P.bp none [P.ts, .int .i64 (n : Int), .int .i64 (d : Int), .int .i64 (P.el : Int), .int .i64 (P.ec : Int)] := h.ob.cel (A := [])
theorem nl {b o : Nat} : z3z (.ptr b o) = some (.ptr b o) := rfl
theorem f0 {b : Nat} : zas C30 121 0 (.ptr b 0) = some (.ptr b 0) := by kernel_rfl
theorem f1 {b : Nat} : zas C30 121 1 (.ptr b 0) = some (.ptr b 1) := by kernel_rfl
theorem f3 {b : Nat} : zas C30 121 3 (.ptr b 0) = some (.ptr b 3) := by kernel_rfl
theorem St.l0 (h : St P tf t n d) : zao C30 66 ⟨0, t⟩ (.ptr P.bp 0) = some P.ts := h.cel.load1 z6b rfl rfl
theorem St.l1 (h : St P tf t n d) : zao C30 3 ⟨0, t⟩ (.ptr P.bp 1) = some (.int .i64 (n : Int)) := h.cel.load1 ty3 rfl rfl
theorem St.l3 (h : St P tf t n d) : zao C30 29 ⟨0, t⟩ (.ptr P.bp 3) = some (.agg [.int .i64 (P.el : Int), .int .i64 (P.ec : Int)]) := by
 have := h.cel.at.load (j := 3) (n := 2) z85 rfl rfl (by simp)
 simpa using this
theorem St.tsr (h : St P tf t n d) : RSl t 4 (P.tk.map Tok.d) P.ts := h.ts.mono h.ob.tle
theorem St.len' (h : St P tf t n d) : zb6 P.ts = some (.int .i64 (P.tk.length : Int)) := by
 have := h.ts.len
 rwa [ybf] at this
theorem agT (x : Tok) : zt6 zz6z (.agg x.cs) = some (cellsOf x.cs) := zg4 rfl
theorem cT0 (x : Tok) : (cellsOf x.cs).i 0 = (x.kind : Int) := rfl
theorem cT1 (x : Tok) : (cellsOf x.cs).s 1 = x.text := rfl
theorem cT2 (x : Tok) : (cellsOf x.cs).i 2 = (x.line : Int) := rfl
theorem cT3 (x : Tok) : (cellsOf x.cs).i 3 = (x.col : Int) := rfl
theorem zwm (h : St P tf t n d) : pvC C30 F 71 [.ptr P.bp 0] t = some (.agg (zfo P n).cs) := by
 refine zbg.2 (w71 ?_)
 simp only [uNn, uI, uG, uZ, uY, uA10, t71, wpT, nl, f0, f1, f3, h.l0, h.l1, h.len', zaa, zak, zcz]; by_cases hn : n < P.tk.length
 ·rw [yab (by omega)]
  have hx : P.tk[n]? = some P.tk[n] := ybd hn
  have hd : (P.tk.map Tok.d)[n]? = some P.tk[n].d := by rw [ybu, hx]; rfl
  obtain ⟨b, o, cs, h1, h2, _, _, h3⟩ := sl66.at (fun h => by cases h) h.tsr hd
  rw [h1, zaa, h2, zaa]; have e := rd_tok h3
  subst e; show zf8 (zt6 zz6z (.agg P.tk[n].cs)) _
  rw [agT, zaa]; simp only [if_true, cT0, cT1, cT2, cT3]; unfold zfo; rw [hx]; exact ⟨rfl, trivial⟩
 ·rw [yaa (by omega), h.l3, zaa]
  have hx : P.tk[n]? = none := List.getElem?_eq_none (by omega)
  show zf8 (some (cellsOf _)) _
  rw [zaa]; simp only [if_true]; unfold zfo; rw [hx]; exact ⟨rfl, trivial⟩
theorem zzof {w : List Nat} : acc P.tk w n = ((decide ((zfo P n).kind = 1) || decide ((zfo P n).kind = 4)) && zem (zfo P n).text w) := by
 unfold acc zfo
 cases P.tk[n]? with
 | none => rfl
 | some x => rfl
theorem zw3 {k : Nat} (hk : 0 < k) : zks P.tk k n = decide ((zfo P n).kind = k) := by
 unfold zks zfo
 cases P.tk[n]? with
 | none => simp; omega
 | some x => rfl
theorem zzfz : zmf P.tk n = (zfo P n).text := by
 unfold zmf zfo
 cases P.tk[n]? with
 | none => rfl
 | some x => rfl
theorem St.set1 (h : St P tf t n d) {n' : Nat} (hn : n' <= P.tk.length) : ∃ t', (∀ q, za0 C30 3 (.ptr P.bp 1) (.int .i64 (n' : Int)) ⟨q, t⟩ = some (zbj, ⟨q, t'⟩)) /\ St P tf t' n' d := by
 obtain ⟨t', h1, h2⟩ := zbe.setCel (A := []) (j := 1) (v := .int .i64 (n' : Int)) h.ob ty3 rfl (by show 1 + 1 <= 5; omega) rfl
 exact ⟨t', h1, h.ts, h2, h.len, hn, h.good, h.glob⟩
theorem acc_lt {w : List Nat} (h : acc P.tk w n = true) : n < P.tk.length := by
 unfold acc at h
 cases hx : P.tk[n]? with
 | none => rw [hx] at h; cases h
 | some x => exact (ybc.1 hx).1
theorem zzk4 {w : List Nat} (h : St P tf t n d) (hQ : ∀ t', St P tf t' (if acc P.tk w n then n + 1 else n) d -> Q (.bool (acc P.tk w n)) t') : Wc C30 F 72 [.ptr P.bp 0, .str w] t Q := by
 refine w72 ?_
 simp only [uG, uQ7, uNn, uI, uFa, t72, wpT]; rw [q71, zwm h, zaa, agT, zaa]; have ha := zzof (P := P) (n := n) (w := w)
 simp only [if_true, cT0, cT1, nl, f1, zaa, zg9]; have step : zem (zfo P n).text w = true -> (decide ((zfo P n).kind = 1) || decide ((zfo P n).kind = 4)) = true -> zf8 (zao C30 3 ⟨0, t⟩ (.ptr P.bp 1)) (fun v => zf8 (intK .i64 v) fun n' => ∀ b, t.get b = none -> C30.base <= b -> zf8 (za0 C30 3 (.ptr P.bp 1) (uIn n') ⟨b, t⟩) fun p => Q (.bool (zem (zfo P n).text w)) p.2.t) := by
  intro h1 h2; rw [h1, h2] at ha; have ha : acc P.tk w n = true := ha
  rw [h.l1, zaa, zak, zaa]; intro b _ _; have hlt := acc_lt ha
  have hl := h.len
  obtain ⟨t', k1, k2⟩ := h.set1 (n' := n + 1) (by omega)
  have e : uIn (n : Int) = .int .i64 ((n + 1 : Nat) : Int) := by
   show zab.int .i64 (zal .i64 ((n : Int) + 1)) = _
   rw [zan (by omega) (by omega)]; rfl
  rw [e, k1, zaa, h1]; rw [ha] at hQ; exact hQ t' k2
 by_cases hk : (zfo P n).kind = 1
 ·rw [yab (by omega)]
  cases he : zem (zfo P n).text w with
  | true => rw [yab rfl]; rw [<- he]; exact step he (by simp [hk])
  | false =>
   rw [yaa (by simp)]
   rw [he, yay] at ha; rw [ha] at hQ; exact hQ t h
 ·rw [yaa (by omega)]
  by_cases hk4 : (zfo P n).kind = 4
  ·rw [yab (by omega)]
   cases he : zem (zfo P n).text w with
   | true => rw [yab rfl]; rw [<- he]; exact step he (by simp [hk4])
   | false =>
    rw [yaa (by simp)]
    rw [he, yay] at ha; rw [ha] at hQ; exact hQ t h
  ·rw [yaa (by omega)]
   have ha : acc P.tk w n = false := by rw [ha]; simp [hk, hk4]
   rw [ha] at hQ; exact hQ t h
theorem zznn {e : Nat} (h : St P tf t n d) (hE : E (zzno P e n) t) : WcE C30 F E 48 [.ptr P.bp 0, .int .i64 (e : Int)] t Q := by
 refine w48 _ _ ?_
 unfold t48; refine zam ?_
 rw [pQ 71, zwm h, zaa]; refine zbq (agT _) (zag rfl ?_)
 refine zam (pX _ _ _ ?_)
 exact hE
theorem Ok.fail {α : Type} {rd : Tr zav -> α -> zab -> Prop} {e : Nat} (h : St P tf t n d) (hk : Ok P rd d tf (.er e n) Q E) {Q' : zbo} : WqE C30 F zct zuz E 48 [.ptr P.bp 0, .int .i64 (e : Int)] t Q' := by
 rw [pE 48]; exact zznn h (hk.err h)
def rdU (_ : Tr zav) (_ : Unit) (v : zab) : Prop := v = .tup []
def rdInt (_ : Tr zav) (s : Int) (v : zab) : Prop := v = .int .i64 s
def rdTok (k : Nat) (_ : Tr zav) (s : List Nat) (v : zab) : Prop := ∃ x : Tok, x.kind = k /\ x.text = s /\ v = .agg x.cs
theorem zv4 {k : Nat} (hk0 : 0 < k) (h : St P tf t n d) (hk : Ok P (rdTok k) d tf (zts P.tk k n) Q E) : WcE C30 F E 59 [.ptr P.bp 0, .int .u8 (k : Int)] t Q := by
 refine w59 _ _ ?_
 unfold t59; refine zam ?_
 rw [pQ 71, zwm h, zaa]; refine zbq (agT _) (zag rfl ?_)
 unfold zts at hk; rw [zw3 hk0] at hk; by_cases hx : (zfo P n).kind = k
 ·rw [decide_eq_true hx, yab rfl] at hk
  refine zaz (by rw [cT0, hx]; simp [zc0]) (za3 (j59_9 _ _ _ _ _ _ _ _ _ ?_))
  unfold zzl0; refine zah nl (zah f1 (zat h.l1 (zaw (zah nl (zah f1 (zau fun b _ _ => ?_))))))
  have hlt : n < P.tk.length := by
   unfold zfo at hx
   cases hy : P.tk[n]? with
   | none => rw [hy] at hx; simp at hx; omega
   | some x => exact (ybc.1 hy).1
  have hl := h.len
  obtain ⟨t', k1, k2⟩ := h.set1 (n' := n + 1) (by omega)
  have e : zal .i64 ((n : Int) + 1) = ((n + 1 : Nat) : Int) := by
   rw [zan (by omega) (by omega)]; rfl
  rw [e]; refine ⟨_, _, k1 b, zag rfl ?_⟩
  exact Ok.now hk k2 ⟨zfo P n, hx, by rw [zzfz], rfl⟩
 ·rw [decide_eq_false hx, yaa (by simp)] at hk
  refine zag (by rw [cT0]; simp [zc0]; omega) (zam (Ok.fail h hk))
theorem zzmg (h : St P tf t n d) (hk : Ok P rdU d tf (zzbf P.tk n) Q E) : WcE C30 F E 43 [.ptr P.bp 0] t Q := by
 refine w43 _ ?_
 unfold t43; refine zam ?_
 rw [pE 59]; unfold zzbf at hk; refine zv4 (k := 5) (by omega) h (hk.bind fun a n1 tf1 t1 v hr hl hst hrd hk1 => ?_)
 obtain ⟨x, _, _, rfl⟩ := hrd
 refine zbq (agT _) (zah nl (zah f1 (zat hst.l1 (zaw (zah nl (zah f0 (zat hst.l0 (zah hst.len' (zaw ?_)))))))))
 by_cases hn : n1 < P.tk.length
 ·rw [yab hn] at hk1
  exact zag (by rw [zbu]; simp; omega) (zam (Ok.fail hst hk1))
 ·rw [yaa hn] at hk1
  exact zaz (by rw [zbu]; simp; omega) (Ok.now hk1 hst rfl)
end
end Go.Proofs
namespace Go.Am
open Go Go.RowKit
def zzq {α : Type} (f : Nat -> Option α) : Nat -> Tr α
 | 0 => .leaf
 | n + 1 => match f n with
  | some v => (zzq f n).set n v
  | none => zzq f n
theorem zgx {α : Type} (f : Nat -> Option α) : ∀ (n a : Nat), (zzq f n).get a = if a < n then f a else none := by
 intro n; induction n with
 | zero => intro a; rw [yaa (by omega)]; exact Tr.get_leaf _
 | succ n ih =>
  grind [zzq, Tr.get_set]
def zzog (N : Nat) : Value -> Option zab
 | .bool b => some (.bool b)
 | .int k n => some (.int k n)
 | .string s => some (.str (zb8 s))
 | .slice none 0 0 => some .nilslice
 | .slice (some _) 0 0 => some (.slice 0 0 0 0)
 | .slice (some ⟨b, off, none⟩) len cap => if b < N then some (.slice (256 + b) off len cap) else none
 | _ => none
def absB (N : Nat) : Obj -> Option zav
 | .cells cs _ _ => some (.cells (zzq (fun j => (cs[j]?).bind (zzog N)) cs.size) cs.size none)
 | _ => none
def z08 (w : World) : Tr zav := zzq (fun a => if a < 256 then (w.heap[a]?).bind (absB w.heap.size) else (w.heap[a - 256]?).bind (absB w.heap.size)) (256 + w.heap.size)
def muW (w : World) : Mu := ⟨fun a => if a < 256 then some ⟨a, true, 0, 0, true⟩ else if a < 256 + w.heap.size then some ⟨a - 256, true, 0, 0, true⟩ else none, fun _ => none⟩
section
variable {w : World}
theorem zziy {v : Value} {a : zab} (h : zzog w.heap.size v = some a) : zaq (muW w) a v := by
 unfold zzog at h; split at h
 ·cases h; rw [zaq]
 ·cases h; rw [zaq]
 ·grind [zaq]
 ·cases h; rw [zaq]
 ·grind [zaq]
 ·split at h
  ·rename_i hb
   cases h; rename_i b off len cap _; rw [zaq]; refine .inl ⟨⟨b, true, 0, 0, true⟩, cap, ?_, rfl, ybk _, fun _ => rfl, fun h => by cases h⟩
   show (if 256 + b < 256 then some (⟨256 + b, true, 0, 0, true⟩ : BI) else if 256 + b < 256 + w.heap.size then some ⟨256 + b - 256, true, 0, 0, true⟩ else none) = _
   rw [yaa (by omega), yab (by omega), show 256 + b - 256 = b by omega]
  ·cases h
 ·cases h
theorem z5x {o : Obj} {x : zav} (h : absB w.heap.size o = some x) (b : Nat) : zou (muW w) ⟨b, true, 0, 0, true⟩ x o /\ x.asLoop = none /\ x.asDeferred = none := by
 cases o <;> first | (cases h; done) | skip
 rename_i cs elem fr
 cases h; refine ⟨⟨cs, elem, fr, rfl, ybk _, .inl rfl, fun j v hv => ?_, rfl⟩, rfl, rfl⟩
 grind [zgx, zziy]
theorem hrelW : zbp (256 + w.heap.size) w.heap.size (muW w) ⟨256 + w.heap.size, z08 w⟩ w := by
 have hget : ∀ a x, (z08 w).get a = some x -> ∃ b o, b < w.heap.size /\ w.heap[b]? = some o /\ absB w.heap.size o = some x /\ a < 256 + w.heap.size /\ b = (if a < 256 then a else a - 256) := by
  grind [z08, zgx]
 have hmu : ∀ a, (muW w) a = if a < 256 then some ⟨a, true, 0, 0, true⟩ else if a < 256 + w.heap.size then some ⟨a - 256, true, 0, 0, true⟩ else none := fun _ => rfl
 have big : ∀ a, 256 + w.heap.size <= a -> (muW w) a = none := fun a h => by rw [hmu, yaa (by omega), yaa (by omega)]
 have same : ∀ a x i, (z08 w).get a = some x -> (muW w) a = some i -> ∃ o, w.heap[i.b]? = some o /\ i.b < w.heap.size /\ absB w.heap.size o = some x /\ i = ⟨i.b, true, 0, 0, true⟩ := by
  grind
 refine ⟨by omega, fun g hg => by rw [hmu, yab hg], fun a x i _ hx hi => ?_, ybk _, ybk _, fun a ha => ⟨big a ha, ?_⟩, fun a x i hx hi => ?_, fun a i ha hi => ?_, fun a b x y i j hx _ hi _ ha _ _ => ?_, fun a x t h => by cases h⟩
 ·obtain ⟨o, _, h2, h3, _⟩ := same a x i hx hi
  exact ⟨h2, (z5x h3 0).2⟩
 all_goals grind [z08, zgx, z5x]
end
end Go.Am
namespace Go.Am
open Go Go.RowKit
def tiles (P : Program) : Nat -> List Field -> Nat -> Bool
 | off, [], n => off == n
 | off, f :: fs, n => f.offset == off && tiles P (off + P.cellsOf f.type) fs n
structure Plain (P : Program) (S : TypeId -> Prop) : Prop where
 part : ∀ t, S t -> match P.underlying t with
  | some .bool => True
  | some (.int _) => True
  | some .string => True
  | some (.slice e) => S e /\ 0 < P.cellsOf e
  | some (.struct fs) => (∀ f ∈ fs.toList, S f.type) /\ tiles P 0 fs.toList (P.cellsOf t) = true
  | _ => False
end Go.Am
namespace Go.Am
open Go Go.RowKit
structure zzk9 (P : Program) where
 (b i u8 u16 s limbs whole frac val expr exprs row rows table tables dfn dfns clause clauses plan : TypeId)
 hb : P.underlying b = some .bool
 hi : P.underlying i = some (.int .i64)
 hu8 : P.underlying u8 = some (.int .u8)
 hu16 : P.underlying u16 = some (.int .u16)
 hs : P.underlying s = some .string
 hlimbs : P.underlying limbs = some (.slice u16)
 hexprs : P.underlying exprs = some (.slice expr)
 hrows : P.underlying rows = some (.slice row)
 htables : P.underlying tables = some (.slice table)
 hdfns : P.underlying dfns = some (.slice dfn)
 hclauses : P.underlying clauses = some (.slice clause)
 hwhole : ∃ fs, P.underlying whole = some (.struct fs) /\ fs.toList.map (·.type) = [b, limbs]
 hfrac : ∃ fs, P.underlying frac = some (.struct fs) /\ fs.toList.map (·.type) = [whole, whole]
 hval : ∃ fs, P.underlying val = some (.struct fs) /\ fs.toList.map (·.type) = [u8, frac, i]
 hexpr : ∃ fs, P.underlying expr = some (.struct fs) /\ fs.toList.map (·.type) = [u8, s, val, exprs]
 hrow : ∃ fs, P.underlying row = some (.struct fs) /\ fs.toList.map (·.type) = [i, i, i, frac]
 htable : ∃ fs, P.underlying table = some (.struct fs) /\ fs.toList.map (·.type) = [s, b, rows]
 hdfn : ∃ fs, P.underlying dfn = some (.struct fs) /\ fs.toList.map (·.type) = [s, u8, b]
 hclause : ∃ fs, P.underlying clause = some (.struct fs) /\ fs.toList.map (·.type) = [s, s, i, i, i, b, expr, expr]
 hplan : ∃ fs, P.underlying plan = some (.struct fs) /\ fs.toList.map (·.type) = [s, dfns, tables, clauses]
 cu16 : P.cellsOf u16 = 1
 cexpr : P.cellsOf expr = 9
 crow : P.cellsOf row = 7
 ctable : P.cellsOf table = 3
 cdfn : P.cellsOf dfn = 3
 cclause : P.cellsOf clause = 24
 bytes : 1 <= P.bytesOf u16 /\ 1 <= P.bytesOf expr /\ 1 <= P.bytesOf row /\ 1 <= P.bytesOf table /\ 1 <= P.bytesOf dfn /\ 1 <= P.bytesOf clause
namespace zzk9
end zzk9
end Go.Am
namespace Go.Am
open Go Go.RowKit Go.Proofs
theorem z6r [zb1] (B N : Nat) (hb : B <= 256 + zb1.n) : ztg Tryz.prog C30 B N zd2 := by
 intro f g hg args H v H' hv μ w args' hH hI hl; have hg : zza8.get f = some g := hg
 unfold zza8 at hg; rcases zfu hg with ⟨rfl, rfl⟩ | hg
 ·exact zfx hv hH fun hv => zux hv hl
 rcases zfu hg with ⟨rfl, rfl⟩ | hg
 ·exact zfx hv hH fun hv => zuw hv hl
 rcases zfu hg with ⟨rfl, rfl⟩ | hg
 ·exact zfx hv hH fun hv => z4n hI hv hl
 rcases zfu hg with ⟨rfl, rfl⟩ | hg
 ·exact zfx hv hH fun hv => zno hI hv hl
 rcases zfu hg with ⟨rfl, rfl⟩ | hg
 ·exact .inr (z19 hb hH hv hl)
 rcases zfu hg with ⟨rfl, rfl⟩ | hg
 ·exact .inr (z6s hb hH hv hl)
 rcases zfu hg with ⟨rfl, rfl⟩ | hg
 ·exact zfx hv hH fun hv => z6t hI hv hl
 ·rw [Tr.get_leaf] at hg; cases hg
theorem sim30 [zb1] (hN : 5 <= zb1.n) : Sim Tryz.prog C30 (256 + zb1.n) zb1.n zd2 :=
 ⟨zzi7 rfl, zzde rfl, z6r _ _ (ybk _), ybk _, by kernel_rfl, fun _ _ hb h => h.below hN hb⟩
section
variable {w : World}
theorem zzmm {b : Nat} {y : zav} (h : (z08 w).get b = some y) : b < 256 + w.heap.size := by
 grind [z08, zgx]
theorem z6d (hL : zd2 w) (f : Nat) (args : List zab) (args' : Array Value) (hp : ∀ [zb1], C30.prims.get f = none) (hl : zbw (muW w) args args'.toList)
  (h : ∀ [zb1], ∃ Q : zbo, Wc C30 F f args (z08 w) Q /\ ∀ v t, Q v t -> v = .bool true) (hf : Nat.blt f yo = true := by rfl) :
  Calls Tryz.prog f args' w fun e w' => e = .returned (.bool true) /\ Below w.heap.size w w' := by
 letI : zb1 := ⟨w.heap.size⟩
 obtain ⟨Q, h1, h2⟩ := h
 refine (z3g (H := ⟨256 + w.heap.size, z08 w⟩) (sim30 hL.size) hL zzn3 hp (ybk _) (fun b y hb => zzmm hb) hrelW hl h1 hf).mono fun e w' ⟨v, v', t', μ', g1, g2, g3, g4, g5⟩ => ?_
 have := h2 v t' g4
 subst this; rw [zaq] at g3; exact ⟨by rw [g1, g3], g5⟩
theorem zzaa {g : Nat} {l : List (List UInt8)} {tg : TypeId} (hg : g < 256) (h : w.heap[g]? = some (.cells (z6i l).toArray tg (0, 0))) [zb1] : At (z08 w) g 0 (l.map fun b => .str (b.map UInt8.toNat)) := by
 have hb := (ybe.1 h).1
 have e : (z08 w).get g = some (.cells (zzq (fun j => ((z6i l).toArray[j]?).bind (zzog w.heap.size)) (z6i l).toArray.size) (z6i l).toArray.size none) := by
  unfold z08; rw [zgx, yab (by omega), yab (by omega), h]
  rfl
 refine ⟨_, _, _, e, fun j a ha => ?_⟩
 rw [zgx, ybw]; rw [ybu] at ha
 cases hbt : l[j]? with
 | none => rw [hbt] at ha; cases ha
 | some b =>
  rw [hbt] at ha; obtain rfl := yci ha
  have hj := (ybc.1 hbt).1
  rw [yab (by simpa [z6i] using hj)]
  simp only [z6i, List.getElem?_toArray, ybu, hbt, Option.map_some, yai, zzog]; rfl
theorem zznb {g : Nat} {l : List Int} {tg : TypeId} (hg : g < 256) (h : w.heap[g]? = some (.cells (zzfe l).toArray tg (0, 0))) [zb1] : At (z08 w) g 0 (l.map fun n => .int .i64 n) := by
 have hb := (ybe.1 h).1
 have e : (z08 w).get g = some (.cells (zzq (fun j => ((zzfe l).toArray[j]?).bind (zzog w.heap.size)) (zzfe l).toArray.size) (zzfe l).toArray.size none) := by
  unfold z08; rw [zgx, yab (by omega), yab (by omega), h]
  rfl
 refine ⟨_, _, _, e, fun j a ha => ?_⟩
 rw [zgx, ybw]; rw [ybu] at ha
 cases hbt : l[j]? with
 | none => rw [hbt] at ha; cases ha
 | some b =>
  rw [hbt] at ha; obtain rfl := yci ha
  have hj := (ybc.1 hbt).1
  rw [yab (by simpa [zzfe] using hj)]
  simp only [zzfe, List.getElem?_toArray, ybu, hbt, Option.map_some, yai, zzog]
theorem zzni (h : zd2 w) : ∀ [zb1], zfc (z08 w) := by
 intro _; obtain ⟨t1, h1⟩ := h.kinds
 obtain ⟨t2, h2⟩ := h.modes
 obtain ⟨t3, h3⟩ := h.lens
 exact ⟨zzaa (by decide) h1, zzaa (by decide) h2, zznb (by decide) h3⟩
end
end Go.Am
namespace Go.Am
open Go Go.RowKit Go.ChangeShapes Go.WideShapes Go.ChangeAt
section
variable {H : Type} {enc : TypeId × Value -> H} {P : Program}
theorem zne (hl : laidOutB P = true) {W W' : World} (hb : Below W.heap.size W W') : ∀ {ts : List TypeId} {vs : List Value} {ds : List (DataW H)} {ps : List MemPlace}, (∀ t ∈ ts, P.readableRec t = true /\ t < P.types.size) →
  DataW.TrodAll enc P W 0 (fun _ => true) true ts vs ds ps -> (∀ x ∈ ps, x.block < W.heap.size) -> DataW.TrodAll enc P W' 0 (fun b => decide (b < W.heap.size)) true ts vs ds ps
 | [], [], [], _, _, h, _ => h
 | t :: ts, _ :: _, _ :: _, _, ht, ⟨p, q, h1, h2, e⟩, hs => by
  subst e; exact ⟨p, q, Below.trod hl (ht t (by simp)).1 (ht t (by simp)).2 h1 hb fun x hx => hs x (ydc _ hx),
   zne hl hb (fun t ht' => ht t (ybr _ ht')) h2 fun x hx => hs x (ycf _ hx), rfl⟩
 | [], _ :: _, _, _, _, h, _ => by simp [DataW.TrodAll] at h
 | [], [], _ :: _, _, _, h, _ => by simp [DataW.TrodAll] at h
 | _ :: _, [], _, _, _, h, _ => by simp [DataW.TrodAll] at h
 | _ :: _, _ :: _, [], _, _, h, _ => by simp [DataW.TrodAll] at h
theorem law_post (hl : laidOutB P = true) {f : Func} {s : ChangeSpec} {tb : TypeId} (hp : ∀ t ∈ f.params.toList, P.readableRec t = true /\ t < P.types.size) (hv : s.vars = []) (hres : f.resultTypes = #[tb]) (htb : P.underlying tb = some .bool)
  {W W' : World} {args : Array Value} {ds gs : List (DataW H)} {before : List MemPlace} (hfn : s.fn H ds = { results := [.lit (.bool true)], args := ds })
  (hW : DataW.Whole enc P f.params.toList s.vars false W args.toList ds gs before) (hb : Below W.heap.size W W') :
  s.post enc P f false true false false W args (.bool true) W' := by
 have hW0 := hW
 obtain ⟨p, q, hA, hV, rfl, hfz, hnd⟩ := hW
 rw [hv] at hV; obtain ⟨rfl, rfl⟩ := trodVars_none hV
 refine ⟨ds, [], p ++ [], [], p, [], hW0, ?_, ?_, ?_, hb.frame _, fun h => by cases h⟩
 ·rw [ycd, hfn, hres]
  exact trodAll_mk1 (shut_bool htb _)
 ·rw [ycd, hfn]
  exact zne hl hb hp hA fun x hx => hW0.lt x (by simp_all)
 ·rw [ycd, hfn, hv]
  exact rfl
theorem z4g {a : Assume} {C : Checked} {os : Os} {f : FuncId} {fn : Func} {s : ChangeSpec} {conds : List PathCond} {apart fresh handsOn again : Bool} {X : World -> Array Value -> Prop}
  (hX : ∀ (w w' : World) (args : Array Value), w.heap = w'.heap -> X w args -> X w' args)
  (own : ownKnob C.prog.godebug = none) (started : os.Started) (noInit : C.prog.inits.idxOf? f = none) (hfn : C.prog.funcs[f]? = some fn)
  (witness : ∃ (w : World) (tape : Tape) (i : Input), w.os = os /\ (w.forCall tape i).Shaped C.prog /\ i.vars = [] /\ Input.okWide C.prog (w.forCall tape i) .any w.heap.size f i ∧
   ((s.pre enc C.prog fn conds apart (w.forCall tape i).memory i.args /\ X (w.forCall tape i).memory i.args) /\ sizedMet enc C.prog fn (OpenSpec.ofChange s) apart (w.forCall tape i).memory i.args) /\ a.holds C.prog (lone (Frame.enter C.prog f i.args .normal) [] (w.forCall tape i)))
  (contract : ∀ (W : World) (base : Nat) (args : Array Value) (ds gs : List (DataW H)) (before : List MemPlace),
   (∀ (j : Nat) t v, fn.params[j]? = some t -> args[j]? = some v -> Value.okWide C.prog W .any base t v) →
   DataW.Whole enc C.prog fn.params.toList s.vars apart W args.toList ds gs before →
   (DataW.weightsEach C.prog (fn.params.toList ++ s.plain.varTypes C.prog) (ds ++ gs)).all (· <= reachBytes) = true -> X W args -> W.ShapedOpen C.prog →
   Calls C.prog f args W fun e W' => ∃ v, e = .returned v /\ s.post enc C.prog fn apart fresh handsOn again W args v W') :
  ReturnsInHanded a C os f .any (fun w args => (s.pre enc C.prog fn conds apart w args /\ X w args) /\ sizedMet enc C.prog fn (OpenSpec.ofChange s) apart w args) (s.post enc C.prog fn apart fresh handsOn again) := by
 refine returnsInHanded_of_calls own started noInit witness ?_
 intro w tape i _ hsh _ hok hpre _; obtain ⟨_, _, _, fn', hfn', _, _, _, _, hval⟩ := hok
 have e : fn' = fn := yci (hfn'.symm.trans hfn)
 subst e; obtain ⟨⟨⟨ds, gs, before, hw, hc⟩, hx⟩, hz⟩ := hpre
 have hw' := DataW.Whole.of_heap (w' := w.forCall tape i) (by rfl) hw
 refine (contract (w.forCall tape i) w.heap.size i.args ds gs before hval hw' (hz.weights hw) (hX _ _ _ (by rfl) hx) hsh).mono fun e W' ⟨v, he, hp⟩ => ?_
 grind [ChangeSpec.post_blind]
variable {w : World} {base : Nat} {spare : Nat -> Bool} {held : Bool} {fuel : Nat} {t e : TypeId} {cs : List Value} {ps : List MemPlace}
theorem zs8 {α : Type} {g : α -> DataW H} {u : α -> Value} {l : List α} {n : Nat} (ht : P.underlying t = some (.array n e)) (hc : P.cellsOf e = 1) (hn : P.cellsOf t = n)
  (h1 : ∀ (m : Nat) (c : List Value) (x : DataW H × List MemPlace) (a : α), DataW.trod enc P w base spare held m e c = some x -> x.1 = g a -> c = [u a])
  (h : DataW.trod enc P w base spare held fuel t cs = some (.agg (l.map g), ps)) : cs = l.map u := by
 obtain ⟨xs, m, _, hx, hlen, hxs, hel⟩ := DataW.trod_array ht h
 simp only [Prod.mk.injEq, DataW.agg.injEq] at hx; have hl : l.length = n := by have := congrArg List.length hx.1; grind
 rw [hn] at hlen; refine List.ext_getElem (by rw [hlen, ybf, hl]) fun i hi1 hi2 => ?_
 have hi : i < n := by omega
 have := hel i hi
 rw [hc] at this; have hc1 : ((cs.drop (i * 1)).take 1) = [cs[i]] := by
  grind [List.drop_eq_getElem_cons]
 rw [hc1, ybd (by omega)] at this
 have hxi : xs[i].1 = g (l[i]'(by omega)) := by
  have := congrArg (fun z => z[i]?) hx.1
  grind
 grind
theorem z4c (he : P.underlying e = some .string) (m : Nat) (c : List Value) (x : DataW H × List MemPlace) (b : List UInt8) (h : DataW.trod enc P w base spare held m e c = some x) (hx : x.1 = .lit (.string b)) : c = [.string ⟨b.toArray⟩] := by
 obtain ⟨s, rfl, rfl, _⟩ := DataW.trod_string he h
 simp at hx; rw [<- hx]
theorem zzhn (he : P.underlying e = some (.int .i64)) (m : Nat) (c : List Value) (x : DataW H × List MemPlace) (n : Int) (h : DataW.trod enc P w base spare held m e c = some x) (hx : x.1 = .lit (.int .i64 n)) : c = [.int .i64 n] := by
 obtain ⟨k, rfl, rfl, _⟩ := DataW.trod_int he h
 simp at hx; rw [hx]
end
theorem joined_of {P : Program} {f : FuncId} {fn : Func} {s : ChangeSpec} {c : OpenClaim}
  (A : (c.wf (OpenSpec.ofChange s) && laidOutB P && mapsRowed P && fn.params.all (P.readableRec ·) && namedTie P c.named s.vars && (c.stops == []) && (P.stops == []) && (c.knobs == []) && (P.stopKnobs == [])) = true)
  (h1 : (c.inPlace == P.inPlace f) = true) (h2 : (c.unfollowed == P.unfollowed f) = true) (h3 : (c.recurses == P.recurses f) = true) (h4 : (c.named == P.varsNamed f) = true)
  (E : ((c.maps == (fn.params.toList ++ s.plain.varTypes P).any (P.mapsRec ·)) && (c.ifaces == (fn.params.toList ++ s.plain.varTypes P).any (P.ifacesRec ·)) && (c.mapsOut == P.mapsAmong fn.resultTypes.toList) &&
   (c.loops == (fn.params.toList ++ s.plain.varTypes P).any (P.loopsFrom ·)) && (c.wideKeys == (fn.params.toList ++ s.plain.varTypes P ++ fn.resultTypes.toList).any (P.wideKeysFrom ·)) &&
   s.vars.all (P.varReadable ·) && fn.resultTypes.all (fun t => P.readableRec t && decide (t < P.types.size)) && (c.ifacesOut == fn.resultTypes.toList.any (P.ifacesRec ·)) && (c.loopsOut == fn.resultTypes.toList.any (P.loopsFrom ·)) && c.shortTexts.isNone) = true)
  (h5 : (c.plainKeys == P.plainKeys) = true) (h6 : P.stopsHeard = true) (h7 : P.mayEnter = true) (h8 : (c.lifted == P.liftsFinal) = true)
  (R : ((P.make == some c.make) && (c.kinds == (if c.domain.isEmpty then [] else fn.params.toList.map fun t => match P.underlying t with | some (.int k) => some k | _ => none)) && (c.pinned == c.pinnedBy) &&
   (c.veiled == (fn.params.toList ++ s.plain.varTypes P ++ fn.resultTypes.toList).any (P.veiledRec ·)) && c.veiledFits P fn.params.toList (fn.params.toList ++ s.plain.varTypes P ++ fn.resultTypes.toList)) = true) :
  joinedFacts P f fn s c = true := by
 unfold joinedFacts; simp only [ybb] at A E R ⊢
 grind
end Go.Am
namespace Go.Proofs.YtfmlbimokklmgaaGreatDoor
open Go Go.Am Go.RowKit Go.ChangeShapes Go.WideShapes Go.ChangeAt
theorem own : ownKnob Tryz.prog.godebug = none := by kernel_rfl
theorem laidOut : laidOutB Tryz.prog = true := by kernel_rfl
theorem gLens : Tryz.prog.globalNamed "annuitant/calendar.lengths" = some 2 := by kernel_rfl
theorem gKinds : Tryz.prog.globalNamed "annuitant/parse.kindWords" = some 1 := by kernel_rfl
theorem gModes : Tryz.prog.globalNamed "annuitant/parse.modeWords" = some 4 := by kernel_rfl
theorem tLens : (Tryz.prog.globals[2]?).map (·.type) = some 219 := by kernel_rfl
theorem tKinds : (Tryz.prog.globals[1]?).map (·.type) = some 201 := by kernel_rfl
theorem tModes : (Tryz.prog.globals[4]?).map (·.type) = some 201 := by kernel_rfl
def laid3 : List (String × DataW Unit) := [("annuitant/calendar.lengths", Rows.laid_annuitant_calendar_lengths), ("annuitant/parse.kindWords", Rows.laid_annuitant_parse_kindWords), ("annuitant/parse.modeWords", Rows.laid_annuitant_parse_modeWords)]
theorem door_met (os : Os) (args : Array Value) : laidMetH Tryz.prog laid3 ((World.doorLaid Tryz.prog 24 os).forCall (fun _ _ => 0) ⟨#[], args, []⟩).memory :=
 laidMetH_of_parts3 (fuel := 8) (laidMet_of_run' 8 (by kernel_rfl) (by kernel_rfl)) (by kernel_rfl) (by kernel_rfl)
theorem zrb {W : World} {n : String} {g : Nat} {cs : Array Value} (hg : Tryz.prog.globalNamed n = some g) (hv : W.var? Tryz.prog n = some cs) (hc : ∃ c t, W.heap[g]? = some (.cells c t (0, 0))) : ∃ t, W.heap[g]? = some (.cells cs t (0, 0)) := by
 obtain ⟨c, t, hc⟩ := hc
 unfold World.var? at hv
 rw [hg] at hv; simp only [yai, hc, Option.some.injEq] at hv; subst hv; exact ⟨t, hc⟩
theorem z1z {g n : Nat} {p q : List MemPlace} (h : 0 < n) : MemPlace.cell g 0 ∈ MemPlace.row ⟨g, 0, none⟩ n ++ p ++ q :=
 ydc _ (ydc _ (yaq.2 ⟨0, List.mem_range.2 h, rfl⟩))
theorem laid_of {W : World} (h : laidMetH Tryz.prog laid3 W) (hsh : W.ShapedOpen Tryz.prog) : zd2 W := by
 rw [MakeChecks.laidMetH_plain _ _ _ (by kernel_rfl)] at h
 obtain ⟨ps, ⟨g0, t0, cs0, f0, p0, q0, hg0, ht0, hv0, hd0, ⟨g1, t1, cs1, f1, p1, q1, hg1, ht1, hv1, hd1, ⟨g2, t2, cs2, f2, p2, q2, hg2, ht2, hv2, hd2, _, hp2⟩, hp1⟩, hp0⟩, _, hcell⟩ := h
 obtain rfl := yci (gLens.symm.trans hg0)
 obtain rfl := yci (gKinds.symm.trans hg1)
 obtain rfl := yci (gModes.symm.trans hg2)
 obtain rfl := yci (tLens.symm.trans ht0)
 obtain rfl := yci (tKinds.symm.trans ht1)
 obtain rfl := yci (tModes.symm.trans ht2)
 have c3 : Tryz.prog.cellsOf 3 = 1 := by kernel_rfl
 have c9 : Tryz.prog.cellsOf 9 = 1 := by kernel_rfl
 have c201 : Tryz.prog.cellsOf 201 = 7 := by kernel_rfl
 have c219 : Tryz.prog.cellsOf 219 = 12 := by kernel_rfl
 have e0 : cs0.toList = zzfe zzhe := zs8 (l := zzhe) (g := fun n => .lit (.int .i64 n)) (u := fun n => .int .i64 n) Tryz.underlying219 c3 c219 (fun m c x a => zzhn Tryz.underlying3 m c x a) hd0
 have e1 : cs1.toList = z6i zw4 := zs8 (l := zw4) (g := fun b => .lit (.string b)) (u := fun b => .string ⟨b.toArray⟩) Tryz.underlying201 c9 c201 (fun m c x a => z4c Tryz.underlying9 m c x a) hd1
 have e2 : cs2.toList = z6i zww := zs8 (l := zww) (g := fun b => .lit (.string b)) (u := fun b => .string ⟨b.toArray⟩) Tryz.underlying201 c9 c201 (fun m c x a => z4c Tryz.underlying9 m c x a) hd2
 have s0 : cs0 = (zzfe zzhe).toArray := by rw [<- e0]
 have s1 : cs1 = (z6i zw4).toArray := by rw [<- e1]
 have s2 : cs2 = (z6i zww).toArray := by rw [<- e2]
 subst s0 s1 s2
 have m0 : MemPlace.cell 2 0 ∈ ps := by rw [hp0]; exact z1z (by decide)
 have m1 : MemPlace.cell 1 0 ∈ ps := by rw [hp0, hp1]; exact ycf _ (z1z (by decide))
 have m2 : MemPlace.cell 4 0 ∈ ps := by rw [hp0, hp1, hp2]; exact ycf _ (ycf _ (z1z (by decide)))
 exact ⟨zrb hg1 hv1 (hcell 1 0 m1).1, zrb hg2 hv2 (hcell 4 0 m2).1, zrb hg0 hv0 (hcell 2 0 m0).1, Tryz.laysM144.s1_3 W hsh⟩
theorem stopsHeard : Tryz.prog.stopsHeard = true := by kernel_rfl
theorem mayEnter : Tryz.prog.mayEnter = true := by kernel_rfl
theorem bool4 : Tryz.prog.underlying 4 = some .bool := Tryz.underlying4
theorem open_two {W : World} {base : Nat} {t e : TypeId} {v : Value} (hu : ∃ n, Tryz.prog.underlying t = some (.array n e)) (hc : Tryz.prog.cellsOf t = 2) (hts : Tryz.prog.cellTypes Tryz.prog.depth t = some [e, e]) (h : Value.okWide Tryz.prog W .any base t v) : ∃ a b, v = .agg #[a, b] /\ Cell.okWide Tryz.prog W .any base e a /\ Cell.okWide Tryz.prog W .any base e b := by
 obtain ⟨n, hu⟩ := hu
 unfold Value.okWide at h; rw [hu] at h; obtain ⟨cs, rfl, h2, ts, h3, _, h4⟩ := h
 rw [hts] at h3
 cases h3; obtain ⟨a, b, rfl⟩ : ∃ a b, cs = #[a, b] := by
  obtain ⟨l⟩ := cs
  rw [hc] at h2; match l, h2 with
  | [a, b], _ => exact ⟨a, b, rfl⟩
 obtain ⟨u, k1, k2⟩ := h4 0 a rfl
 obtain ⟨u', k3, k4⟩ := h4 1 b rfl
 cases k1
 cases k3
 exact ⟨a, b, rfl, k2, k4⟩
theorem cell_int {W : World} {base : Nat} {e : TypeId} {k : IntKind} {v : Value} (hu : Tryz.prog.underlying e = some (.int k)) (h : Cell.okWide Tryz.prog W .any base e v) : ∃ n, v = .int k n /\ k.has n := by
 unfold Cell.okWide at h; rw [hu] at h; have h : Cell.ok Tryz.prog W .any base e v := h
 unfold Cell.ok at h; rw [hu] at h
 cases v <;> first | (exact ⟨_, by rw [h.1], h.2⟩) | exact h.elim
theorem cell_bool {W : World} {base : Nat} {e : TypeId} {v : Value} (hu : Tryz.prog.underlying e = some .bool) (h : Cell.okWide Tryz.prog W .any base e v) : ∃ b, v = .bool b := by
 unfold Cell.okWide at h; rw [hu] at h; have h : Cell.ok Tryz.prog W .any base e v := h
 unfold Cell.ok at h; rw [hu] at h
 cases v <;> first | exact ⟨_, rfl⟩ | exact h.elim
end Go.Proofs.YtfmlbimokklmgaaGreatDoor
namespace Go.Am
open Go Go.RowKit
theorem Tr.pick (p : Nat -> Bool) (t : Tr zav) : ∀ n : Nat, ∃ t' : Tr zav, ∀ b, t'.get b = if b < n /\ p b = true then none else t.get b := by
 intro n; induction n with
 | zero => exact ⟨t, fun b => by simp⟩
 | succ n ih =>
  obtain ⟨t', h⟩ := ih
  cases hp : p n with
  | false => exact ⟨t', fun b => by rw [h]; by_cases hb : b = n <;> grind⟩
  | true => exact ⟨t'.del n, fun b => by rw [Tr.get_del, h]; by_cases hb : b = n <;> grind⟩
section
variable {C : Ctx} {F : Tr zfs} {f : Nat} {args : List zab} {tf t : Tr zav} {Q : zbo}
theorem Wc.under (h : Wc C F f args tf Q) (hle : TLe tf t) : Wc C F f args t fun v t' => ∃ tf', Q v tf' /\ TLe tf' t' /\ ∀ b y, t.get b = some y -> tf.get b = none -> t'.get b = some y /\ tf'.get b = none := by
 intro X HA ho; have hX : Ov C.base tf (fun b => match tf.get b with | some _ => none | none => match t.get b with | some y => some y | none => X b) HA := by
  refine ⟨ho.base, fun b hb => ?_, fun b y hb => ?_, fun b y hb => ho.lt _ _ (hle _ _ hb)⟩
  ·cases h1 : tf.get b with
   | some y => rw [ho.up (hle _ _ h1)]
   | none =>
    simp only [h1] at hb
    cases h2 : t.get b with
    | some y => simp [h2] at hb
    | none => simp only [h2] at hb; rw [ho.same b hb, h2]
  ·cases h1 : tf.get b with
   | some y => simp [h1] at hb
   | none =>
    simp only [h1] at hb
    cases h2 : t.get b with
    | some z => simp only [h2] at hb; cases hb; exact ⟨ho.up h2, rfl, ho.lt _ _ h2⟩
    | none => simp only [h2] at hb; obtain ⟨e1, e2, e3⟩ := ho.ext _ _ hb; exact ⟨e1, rfl, e3⟩
 obtain ⟨v, tf', HA', X', h1, h2, h3, h4⟩ := zfg.1 (h _ _ hX)
 have hk : ∀ b y, t.get b = some y -> tf.get b = none -> X' b = some y := fun b y g1 g2 => h3 b y (by simp only [g2, g1])
 obtain ⟨t', ht'⟩ := Tr.pick (fun b => (X' b).isSome && !(tf.get b).isNone.not && !((t.get b).isSome && (tf.get b).isNone)) HA'.t HA'.next
 have hbase := h2.base
 refine zfg.2 ⟨v, t', HA', fun b => if ((X' b).isSome && !(tf.get b).isNone.not && !((t.get b).isSome && (tf.get b).isNone)) = true then X' b else none, h1, ⟨h2.base, fun b hb => ?_, fun b y hb => ?_, fun b y hb => ?_⟩, ?_, tf', h4, ?_, ?_⟩
 ·rw [ht']
  split
  ·rename_i hc; rw [yab hc.2] at hb; rw [hb] at hc; simp at hc
  ·rfl
 ·split at hb
  ·rename_i hc
   obtain ⟨e1, e2, e3⟩ := h2.ext b y hb
   exact ⟨e1, by rw [ht', yab ⟨e3, hc⟩], e3⟩
  ·cases hb
 ·rw [ht'] at hb
  split at hb
  ·cases hb
  ·cases hx : X' b with
   | some z => exact (h2.ext b z hx).2.2
   | none => rw [h2.same b hx] at hb; exact h2.lt b y hb
 ·intro b y hb
  have g1 : t.get b = none := (ho.ext b y hb).2.1
  have g2 : tf.get b = none := by
   cases hx : tf.get b with
   | none => rfl
   | some z => rw [hle _ _ hx] at g1; cases g1
  have g3 : X' b = some y := h3 b y (by simp only [g2, g1, hb])
  simp [g1, g2, g3]
 ·intro b y hb
  rw [ht']; split
  ·rename_i hc
   cases hx : X' b with
   | none => rw [hx] at hc; simp at hc
   | some z => rw [(h2.ext b z hx).2.1] at hb; cases hb
  ·exact h2.up hb
 ·intro b y g1 g2
  have g3 := hk b y g1 g2
  refine ⟨?_, (h2.ext b y g3).2.1⟩
  rw [ht', yaa]
  ·exact (h2.ext b y g3).1
  ·simp [g1, g2]
theorem Wc.objs {R : zab -> Tr zav -> Prop} {L : List Thg} (h : Wc C F f args tf fun v tf' => TLe tf tf' /\ R v tf') (ho : zbe C.base tf t L) (hQ : ∀ v tf' t', TLe tf tf' -> zbe C.base tf' t' L -> R v tf' -> Q v t') : Wc C F f args t Q := by
 refine (Wc.under h ho.tle).mono fun v t' ⟨tf', ⟨k1, k2⟩, k3, k4⟩ => hQ v tf' t' k1 ?_ k2
 refine ho.keep k1 k3 fun k hk => ?_
 obtain ⟨y, hy⟩ := ho.live hk
 obtain ⟨e1, e2⟩ := k4 k y hy (ho.low k hk).2
 exact ⟨by rw [e1, hy], e2⟩
end
end Go.Am
namespace Go.Proofs
open Go Go.Am
variable [zb1]
theorem el189 : zzi3 C30 189 56 1 := ⟨⟨_, zjh, rfl, rfl⟩, ⟨_, zl8, rfl, rfl, by decide, by decide⟩⟩
def z07 (l : List Nat) : List zab := l.map fun (n : Nat) => zab.int .u32 (n : Int)
theorem z33 (l : List Nat) : (z07 l).length = l.length := by simp [z07]
theorem Cel.words {t : Tr zav} {b n cap : Nat} {l : List Nat} (h : Cel t b none (z07 l)) (hn : n <= l.length) (hc : n <= cap) : RSl t 1 (zbc .u32 (l.take n)) (.slice b 0 n cap) := by
 obtain ⟨c, h1, h2⟩ := h
 refine ⟨(l.take n).map fun (x : Nat) => [zab.int .u32 (x : Int)], .inr ⟨b, 0, cap, ?_, by simp; omega, ⟨c, _, _, h1, .inl rfl⟩, fun i cs hi => ?_⟩, ?_⟩
 ·simp; omega
 ·rw [ybu] at hi
  cases hx : (l.take n)[i]? with
  | none => rw [hx] at hi; cases hi
  | some x =>
   rw [hx] at hi; cases hi; refine ⟨rfl, c, _, _, h1, fun j a hj => ?_⟩
   match j, hj with
   | 0, hj =>
    cases hj; rw [show 0 + i * 1 + 0 = i by omega]; refine h2 i _ ?_
    have := (ybc.1 hx).1
    rw [ydf] at hx; unfold z07; rw [ybu]; grind
 ·induction l.take n with
  | nil => exact zdl.2 rfl
  | cons x r ih => exact zcg.2 ⟨_, _, rfl, zkv.2 rfl, ih⟩
theorem Cel.le {tf t : Tr zav} {b : Nat} {lo : Option Lo} {cs : List zab} (h : Cel tf b lo cs) (hl : TLe tf t) : Cel t b lo cs := by
 obtain ⟨c, h1, h2⟩ := h
 exact ⟨c, hl _ _ h1, h2⟩
theorem zj3 {base : Nat} {W J : zd3} {t : Tr zav} {Q : zbo} {f : zab} {args : List zab} {K : zab -> T} {g : Nat} {a : List zab} (h : zkx f args = some (g, a)) (k : W g a t (fun v t' => wpT base W J (K v) t' Q)) : wpT base W J (.callv f args K) t Q := by
 show zf8 (zkx f args) _
 rw [h]; exact k
section
variable {t t0 : Tr zav} {Q : zbo}
abbrev zzky (a3 b a1 a0 : Nat) (row : List Nat) (k cap : Nat) (c : Nat) : List Thg := [zes a3 none [.slice b 0 k cap], zes b none (z07 row), zes a1 none [.int .u64 (c : Int)], zes a0 none [.ptr a3 0]]
theorem zzkx {a3 b a1 a0 k cap c s : Nat} {row : List Nat} (h : zbe C30.base t0 t (zzky a3 b a1 a0 row k cap c)) (hk : k < cap) (hcap : cap = row.length) (hs : s + c < 18446744073709551616)
  (hQ : ∀ t', zbe C30.base t0 t' (zzky a3 b a1 a0 (row.set k ((s + c) % 4294967296)) (k + 1) cap ((s + c) / 4294967296)) -> Q (.tup []) t') : Wc C30 F 154 [.int .u64 (s : Int), .ptr a1 0, .ptr a0 0] t Q := by
 have l1 : ∀ {t}, zbe C30.base t0 t (zzky a3 b a1 a0 row k cap c) -> zao C30 207 ⟨0, t⟩ (.ptr a1 0) = some (.int .u64 (c : Int)) := fun h => (zbe.cel (A := [_, _]) h).load1 zmv rfl rfl
 have l2 : ∀ {t}, zbe C30.base t0 t (zzky a3 b a1 a0 row k cap c) -> zao C30 206 ⟨0, t⟩ (.ptr a0 0) = some (.ptr a3 0) := fun h => (zbe.cel (A := [_, _, _]) h).load1 ty206 rfl rfl
 have l3 : ∀ {t}, zbe C30.base t0 t (zzky a3 b a1 a0 row k cap c) -> zao C30 189 ⟨0, t⟩ (.ptr a3 0) = some (.slice b 0 k cap) := fun h => (zbe.cel (A := []) h).load1 zjh rfl rfl
 have nl : ∀ b o, z3z (.ptr b o) = some (.ptr b o) := fun _ _ => rfl
 refine w154 ?_
 unfold t154 uE; have e1 : zal .u64 ((s : Int) + (c : Int)) = ((s + c : Nat) : Int) := by rw [za5 (by omega) (by omega)]; omega
 have e2 : zal .u32 ((s + c : Nat) : Int) = (((s + c) % 4294967296 : Nat) : Int) := by rw [zeb]; omega
 have e3 : Int.fdiv ((s + c : Nat) : Int) 4294967296 = (((s + c) / 4294967296 : Nat) : Int) := by rw [Int.fdiv_eq_ediv_of_nonneg _ (by omega)]; omega
 refine zat (l1 h) (zaw ?_)
 rw [e1, e2, e3]; refine zat (l2 h) (zat (l2 h) (zah (nl _ _) (zat (l3 h) (zau fun n hn hnb => ?_))))
 obtain ⟨t1, g1, g2, g3, g4⟩ := zld (C := C30) (T := 189) (ps := [(0, .int .u32 (((s + c) % 4294967296 : Nat) : Int))]) (cl := [[.int .u32 (((s + c) % 4294967296 : Nat) : Int)]]) (n := 1) (sz := 1) zjh rfl zl8 rfl rfl (by omega) (by
   have e : zqg [zab.int .u32 0] 1 = [.int .u32 0] := rfl
   show zlm _ _ (zqg [zab.int .u32 0] 1) = _
   rw [e]; rfl) (by intro i cs hi; match i, hi with | 0, hi => cases hi; rfl) rfl hn
 have h1 := h.junk hn g4
 have sm : ∀ b o, same 10 (.ptr b o) (.ptr b o) = true := fun b o => by simp [same, Nat.beq_refl]
 refine ⟨_, _, g1, zat (l2 h1) (zag (sm _ _) (zat (l2 h1) (zag (sm _ _) (zat (l3 h1) (zag zum (zau fun n2 _ _ => ?_))))))⟩
 have hlow := h1.low b (by simp [zes])
 obtain ⟨t2, k1, k2, k3⟩ := z3o (C := C30) (n := n2) (k := k) (m := 1) (cap := cap) el189 (zbe.cel (A := [_]) h1) hlow.1 g2 rfl (by omega) (by omega) (by rw [z33]; omega) (by intro a ha; simp at ha; subst ha; rfl)
 have e4 : zl9 (z07 row) k [[zab.int .u32 (((s + c) % 4294967296 : Nat) : Int)]].flatten = z07 (row.set k ((s + c) % 4294967296)) := by
  apply List.ext_getElem?
  intro i; have q1 : (z07 (row.set k ((s + c) % 4294967296)))[i]? = ((row.set k ((s + c) % 4294967296))[i]?).map fun (n : Nat) => zab.int .u32 (n : Int) := ybu
  have q2 : (z07 row)[i]? = (row[i]?).map fun (n : Nat) => zab.int .u32 (n : Int) := ybu
  rw [znq (by rw [z33]; show k + 1 <= _; omega), q1, q2, ycw]
  show (if k <= i /\ i < k + 1 then [zab.int .u32 (((s + c) % 4294967296 : Nat) : Int)][i - k]? else _) = _
  by_cases hi : i = k
  ·subst hi
   rw [yab ⟨ybk _, by omega⟩, yab rfl, yab (by omega), Nat.sub_self]; rfl
  ·rw [yaa (by omega), yaa (fun e => hi e.symm)]
 rw [e4] at k2; have h2 : zbe C30.base t0 t2 (zzky a3 b a1 a0 (row.set k ((s + c) % 4294967296)) k cap c) := zbe.upd (A := [_]) (o := zes b none (z07 row)) h1 (fun q hq _ => k3 q (fun e => hq (by simp [zes, e]))) (fun q hq => .inl hq) k2 (by simp [zes]) (h1.tle.off hlow.2 k3)
 refine ⟨_, _, k1, ?_⟩
 have l2' : zao C30 206 ⟨0, t2⟩ (.ptr a0 0) = some (.ptr a3 0) := (zbe.cel (A := [_, _, _]) h2).load1 ty206 rfl rfl
 refine zat l2' (zag (sm _ _) (zah (nl _ _) (zau fun n3 _ _ => ?_)))
 obtain ⟨t3, m1, m2⟩ := zbe.setCel (A := []) (j := 0) (v := .slice b 0 (k + 1) cap) h2 zjh rfl (by show 0 + 1 <= 1; omega) rfl
 refine ⟨_, _, m1 n3, zau fun n4 _ _ => ?_⟩
 obtain ⟨t4, p1, p2⟩ := zbe.setCel (A := [_, _]) (j := 0) (v := .int .u64 (((s + c) / 4294967296 : Nat) : Int)) m2 zmv rfl (by show 0 + 1 <= 1; omega) rfl
 exact ⟨_, _, p1 n4, hQ t4 p2⟩
theorem z0n {a3 b k cap : Nat} {row : List Nat} (h : zbe C30.base t0 t [zes a3 none [.slice b 0 k cap], zes b none (z07 row)]) (hQ : ∀ t' a1 a0, zbe C30.base t0 t' (zzky a3 b a1 a0 row k cap 0) -> Q (.func (.func 154) [] [.ptr a1 0, .ptr a0 0]) t') : Wc C30 F 139 [.ptr a3 0] t Q := by
 refine w139 ?_
 unfold t139; refine zau fun a0 h0 hb0 => ?_
 obtain ⟨t1, e1, e2, e3, e4⟩ := zxx (v := .ptr a3 0) h0
 have o1 := zbe.newCel (A := [_, _]) (B := []) h h0 hb0 e2 e3 e4
 refine ⟨_, _, e1, zau fun a1 h1 hb1 => ?_⟩
 obtain ⟨t2, f1, f2, f3, f4⟩ := zeh (C := C30) zmv h1
 have o2 := zbe.newCel (A := [_, _]) (B := [_]) o1 h1 hb1 f2 f3 f4
 refine ⟨_, _, f1, zau fun n _ _ => ?_⟩
 obtain ⟨t3, m1, m2⟩ := zbe.setCel (A := [_, _]) (j := 0) (v := .int .u64 0) o2 zmv rfl (by show 0 + 1 <= 1; omega) rfl
 exact ⟨_, _, m1 n, hQ t3 a1 a0 m2⟩
theorem zzfx {l : List Nat} {v : zab} {f p : Nat} (hv : RSl t 1 (zbc .u32 l) v) (hl : l.length < 100000) (hlt : za2 4294967296 l) (hf : f < 4294967296) (hp : p < 4294967296)
  (hQ : ∀ t' r rv, TLe t t' -> RSl t' 1 (zbc .u32 r) rv -> za2 4294967296 r -> norm r -> val 4294967296 r = val 4294967296 l * f + p -> r.length <= l.length + 1 -> Q rv t') : Wc C30 F 121 [v, .int .u32 (f : Int), .int .u32 (p : Int)] t Q := by
 have hlen := hv.len
 rw [zbl] at hlen; have ho : zbe C30.base t t [] := ⟨TLe.refl _, by simp, by simp, by simp⟩
 refine w121 ?_
 unfold t121 uI; have e0 : uIn (l.length : Int) = .int .i64 ((l.length + 1 : Nat) : Int) := by
  show zab.int .i64 (zal .i64 ((l.length : Int) + 1)) = _
  rw [zan (by omega) (by omega)]; rfl
 refine zah hlen (zaw (zau fun b hb hbb => ?_))
 rw [e0]; obtain ⟨t1, g1, g2, g3, g4⟩ := zzbw (C := C30) (T := 189) (el := 56) (k := .u32) (cap := l.length + 1) zjh rfl zl8 rfl rfl (by decide) (by omega) hb
 have hrow : List.replicate (l.length + 1) (zab.int .u32 0) = z07 (List.replicate (l.length + 1) 0) := by
  unfold z07; rw [List.map_replicate]; rfl
 rw [hrow] at g2; have o1 := zbe.newCel (A := []) (B := []) ho hb hbb g2 g3 g4
 refine ⟨_, _, g1, zau fun a3 h3 hb3 => ?_⟩
 obtain ⟨t2, f1, f2, f3, f4⟩ := zeh (C := C30) zjh h3
 have o2 := zbe.newCel (A := []) (B := [_]) o1 h3 hb3 f2 f3 f4
 refine ⟨_, _, f1, zau fun n _ _ => ?_⟩
 obtain ⟨t3, m1, m2⟩ := zbe.setCel (A := []) (j := 0) (v := .slice b 0 0 (l.length + 1)) o2 zjh rfl (by show 0 + 1 <= 1; omega) rfl
 refine ⟨_, _, m1 n, zam ?_⟩
 rw [q139]; refine z0n m2 fun t4 a1 a0 o4 => ?_
 have e5 : zal .u64 (p : Int) = (p : Int) := za5 (by omega) (by omega)
 refine zah hlen (zaw (za3 ?_))
 rw [e5]; have hfn : ∀ s : Int, zkx (.func (.func 154) [] [.ptr a1 0, .ptr a0 0]) [.int .u64 s] = some (154, [.int .u64 s, .ptr a1 0, .ptr a0 0]) := fun s => rfl
 have loop : ∀ (k i x c : Nat) (row : List Nat) (t5 : Tr zav), i + k = l.length -> row.length = l.length + 1 -> za2 4294967296 (row.take i) -> x + c < 4294967296 -> val 4294967296 (row.take i) + 4294967296 ^ i * (x + c) = val 4294967296 (l.take i) * f + p →
   zbe C30.base t t5 (zzky a3 b a1 a0 row i (l.length + 1) c) -> jp 121 2 [.int .u32 (f : Int), .ptr a3 0, .func (.func 154) [] [.ptr a1 0, .ptr a0 0], .int .u64 (x : Int), v, .int .i64 (l.length : Int), .int .i64 (i : Int)] t5 Q := by
  intro k; induction k with
  | zero =>
   intro i x c row t5 hi hrl hra hxc hval o5; have hi : i = l.length := by omega
   subst hi; refine zzkl ?_
   unfold z93; refine zaz (by simp [zbu]) (zj3 (hfn _) ?_)
   rw [q154]; refine zzkx o5 (by omega) hrl.symm (by omega) fun t6 o6 => ?_
   have hd0 : (x + c) / 4294967296 = 0 := Nat.div_eq_of_lt hxc
   have hm0 : (x + c) % 4294967296 = x + c := Nat.mod_eq_of_lt hxc
   rw [hm0] at o6; have lv : zao C30 189 ⟨0, t6⟩ (.ptr a3 0) = some (.slice b 0 (l.length + 1) (l.length + 1)) := (zbe.cel (A := []) o6).load1 zjh rfl rfl
   refine zat lv (zam ?_)
   obtain ⟨c0, y1, y2⟩ := zbe.cel (A := [_]) o6
   have od := zbe.drop (A := [_]) o6
   have hni := zbe.notin (A := [_]) (o := zes b none (z07 (row.set l.length (x + c)))) o6 (k := b) (by simp [zes])
   obtain ⟨r1, r2⟩ := od.froze hni y1 (o6.low b (by simp [zes])).2
   have hw : Cel (t.set b (.cells c0 (z07 (row.set l.length (x + c))).length none)) b none (z07 (row.set l.length (x + c))) := ⟨c0, by rw [Tr.get_set, yab rfl], y2⟩
   have hR := Cel.words (Cel.le hw r1.tle) (n := l.length + 1) (cap := l.length + 1) (by simp [hrl]) (ybk _)
   have hrow : (row.set l.length (x + c)).take (l.length + 1) = row.take l.length ++ [x + c] := by
    rw [zdd (x := x + c) (by rw [ycw]; simp [hrl])]
    rw [List.take_set_of_le (ybk _)]
   rw [hrow] at hR; obtain ⟨v', h1, h2⟩ := zk1 (by simp; omega) hR
   rw [zzmd, h1, zaa]; have hlen2 : (row.take l.length).length = l.length := by rw [yda]; omega
   refine hQ t6 _ _ (r2.trans r1.tle) h2 (zcx (zek hra hxc)) (zdy _) ?_ ?_
   ·rw [zet, zdi, hlen2, hval, List.take_length]
   ·have := zk4 (row.take l.length ++ [x + c])
    rw [ybg, hlen2] at this; simpa using this
  | succ k ih =>
   intro i x c row t5 hi hrl hra hxc hval o5; have hx : l[i]? = some l[i] := ybd (by omega)
   refine zzkl ?_
   unfold z93 uL; obtain ⟨b', o', cs, h1, h2, _, _, h3⟩ := zec.at (fun _ => rfl) (hv.mono o5.tle) (z0j hx)
   have e := zkv.1 h3
   subst e; have hw : l[i] < 4294967296 := hlt _ (ycj _)
   have hm : l[i] * f <= 4294967295 * 4294967295 := ydb (by omega) (by omega)
   have e1 : zal .u64 (zal .u64 (zal .u64 (l[i] : Int) * zal .u64 (f : Int)) + (x : Int)) = ((l[i] * f + x : Nat) : Int) := by
    rw [za5 (n := (l[i] : Int)) (by omega) (by omega), za5 (n := (f : Int)) (by omega) (by omega), <- Int.natCast_mul, za5 (n := ((l[i] * f : Nat) : Int)) (by omega) (by omega), za5 (by omega) (by omega)]
    omega
   refine zag (by rw [zbu]; exact decide_eq_true (by omega)) (zah h1 (zat h2 (zaw ?_)))
   rw [e1]; refine zj3 (hfn _) ?_
   rw [q154]; refine zzkx o5 (by omega) hrl.symm (by omega) fun t6 o6 => ?_
   have e2 : uIn (i : Int) = .int .i64 ((i + 1 : Nat) : Int) := by
    show zab.int .i64 (zal .i64 ((i : Int) + 1)) = _
    rw [zan (by omega) (by omega)]; rfl
   refine za3 ?_
   rw [e2]; have hrow : (row.set i ((l[i] * f + x + c) % 4294967296)).take (i + 1) = row.take i ++ [(l[i] * f + x + c) % 4294967296] := by
    rw [zdd (x := (l[i] * f + x + c) % 4294967296) (by rw [ycw]; simp; omega)]
    rw [List.take_set_of_le (ybk _)]
   have hlen2 : (row.take i).length = i := by rw [yda]; omega
   refine ih (i + 1) 0 ((l[i] * f + x + c) / 4294967296) _ t6 (by omega) (by simp [hrl]) ?_ (by omega) ?_ o6
   ·rw [hrow]; exact zek hra (by omega)
   ·rw [hrow, zdi, hlen2, zdd hx, zdi, yda, Nat.min_eq_left (by omega), ybo, yag, ybw]
    have key : 4294967296 * ((l[i] * f + x + c) / 4294967296) + (l[i] * f + x + c) % 4294967296 = l[i] * f + x + c := ych _ _
    calc val 4294967296 (row.take i) + 4294967296 ^ i * ((l[i] * f + x + c) % 4294967296) + 4294967296 ^ i * 4294967296 * ((l[i] * f + x + c) / 4294967296)
      = val 4294967296 (row.take i) + 4294967296 ^ i * (4294967296 * ((l[i] * f + x + c) / 4294967296) + (l[i] * f + x + c) % 4294967296) := by grind
     _ = (val 4294967296 (row.take i) + 4294967296 ^ i * (x + c)) + 4294967296 ^ i * (l[i] * f) := by rw [key]; grind
     _ = _ := by rw [hval]; grind
 refine loop l.length 0 p 0 _ t4 (by omega) (by simp) (fun x hx => by simp at hx) (by omega) (by simp [val]) o4
end
end Go.Proofs
namespace Go.Am
open Go Go.RowKit
inductive E where
 | pl (d : D)
 | sl (sz : Nat) (l : List E) (m : List D)
 | st (l : List E)
section
variable {t t' tf : Tr zav} {C : Ctx}
end
end Go.Am
namespace Go.Am
open Go Go.RowKit
def limbMs : List D := (List.range 12).map fun i => D.int .u16 (((8000024 + i) % 65536 : Nat) : Int)
def zej.e (w : zej) : E := .st [.pl (.bool w.neg), .sl 1 ((zf7 w.limbs).map E.pl) limbMs]
section
variable {t : Tr zav}
theorem zqt {w : zej} {u : zab} (hu : RSl t 1 (zf7 w.limbs) u) : RD t w.d [.bool w.neg, u] := by
 unfold zej.d; rw [zql]; refine ⟨[[.bool w.neg], [u]], rfl, ?_⟩
 grind [zcg, zdl, zx5, z79]
theorem zwy {f : zf9} {u v : zab} (hu : RSl t 1 (zf7 f.n.limbs) u) (hv : RSl t 1 (zf7 f.d.limbs) v) : RD t f.dd [.bool f.n.neg, u, .bool f.d.neg, v] := by
 unfold zf9.dd; rw [zql]; refine ⟨[[.bool f.n.neg, u], [.bool f.d.neg, v]], rfl, ?_⟩
 grind [zcg, zqt, zdl]
theorem zzjz {x : ztn} {u v : zab} (hu : RSl t 1 (zf7 x.f.n.limbs) u) (hv : RSl t 1 (zf7 x.f.d.limbs) v) : RD t x.d [.int .u8 x.kind, .bool x.f.n.neg, u, .bool x.f.d.neg, v, .int .i64 x.i] := by
 unfold ztn.d; rw [zql]; refine ⟨[[.int .u8 x.kind], [.bool x.f.n.neg, u, .bool x.f.d.neg, v], [.int .i64 x.i]], rfl, ?_⟩
 grind [zcg, zkv, zwy, zdl]
theorem zza0 {sz : Nat} : RSl t sz [] .nilslice := ⟨[], .inl ⟨rfl, rfl⟩, zdl.2 rfl⟩
end
end Go.Am
namespace Go.Proofs
open Go Go.Am
variable [zb1]
section
variable {tf t : Tr zav} {C : Ctx}
theorem zzh4 {sz : Nat} {z : List zab} {v : zab} (hz : z.length = sz) (hv : v.cells.length = sz) : zlm (fun i => some (i * sz, sz)) [(0, v)] (zqg z 1) = some v.cells := by
 have e : zqg z 1 = z := by
  show zfp z [] = _; rw [zca, ycd]
 rw [e]; have o1 : zll z (0 * sz) sz v = some v.cells := by
  unfold zll; simp only [za1, hv, Nat.zero_mul, ybw, zfz, ze3, zca, List.take_zero, yah]; rw [zds.2 rfl, zg3.2 (by omega)]
  simp only [Bool.and_self, zar]; rw [<- hz, List.drop_length, ycd]
 grind [zlm, zad]
theorem litN {T el sz b n : Nat} {L : List Thg} {y z : ATy} {ps : List (Nat × zab)} {cl : List (List zab)} {ds : List D} (hT : C.tys.get T = some y) (hel : y.desc.asSlice = some el) (hz : C.tys.get el = some z) (hs : z.size = sz) (h0 : zbf z.zero = sz) (hn : n * sz < 1000000)
  (hfill : zlm (fun i => some (i * sz, sz)) ps (zqg z.zero n) = some cl.flatten) (hcl : ∀ (i : Nat) cs, cl[i]? = some cs -> cs.length = sz) (hlen : cl.length = n) (hr : RDs tf ds cl) (ho : zbe C.base tf t L) (hb : t.get b = none) :
  ∃ tf' t', za8 C T n ps ⟨b, t⟩ = some (.slice b 0 n n, ⟨b + 1, t'⟩) /\ TLe tf tf' /\ zbe C.base tf' t' L /\ RSl tf' sz ds (.slice b 0 n n) := by
 obtain ⟨t', h1, h2, h3, h4⟩ := zld hT hel hz hs h0 hn hfill hcl hlen hb
 have ho' := ho.junk hb h4
 have hfb := ho.tfn hb
 have hg : t'.get b = some (.cells (Tr.ofList cl.flatten) (zbf cl.flatten) none) := by
  have := h1
  unfold za8 at this; rw [hT, zad, hel, zad, hz, zad] at this; rw [zae, hs, hfill, zad] at this; obtain ⟨_, h5⟩ := this
  have h5 := (Prod.mk.inj (yci h5)).2
  have h6 : t.set b (.cells (Tr.ofList cl.flatten) (zbf cl.flatten) none) = t' := (zaf.mk.inj h5).2
  rw [<- h6, Tr.get_set, yab rfl]
 obtain ⟨k1, k2⟩ := ho'.froze (fun hm => ho.fresh hb hm) hg hfb
 refine ⟨_, t', h1, k2, k1, cl, zvd hcl (by rw [Tr.get_set, yab rfl]) (.inl rfl) hlen, RDs.mono k2 _ _ hr⟩
end
def rdXV (tf : Tr zav) (x : ztn) (v : zab) : Prop := ∃ cs, v = .agg cs /\ RD tf x.d cs
abbrev zE : List zab := [.int .u8 0, .str [], .int .u8 0, .bool false, .nilslice, .bool false, .nilslice, .int .i64 0, .nilslice]
abbrev zV : List zab := [.int .u8 0, .bool false, .nilslice, .bool false, .nilslice, .int .i64 0]
abbrev cE (X : zg6) : List zab := [.int .u8 (X.i 0), .str (X.s 1), .int .u8 (X.i 2), .bool (X.b 3), X.v 4, .bool (X.b 5), X.v 6, .int .i64 (X.i 7), X.v 8]
abbrev cV (X : zg6) : List zab := [.int .u8 (X.i 0), .bool (X.b 1), X.v 2, .bool (X.b 3), X.v 4, .int .i64 (X.i 5)]
theorem zzio {tf : Tr zav} {x : ztn} {cs : List zab} (h : RD tf x.d cs) : cV (cellsOf cs) = cs := by
 obtain ⟨a, b, rfl, _⟩ := znm h
 rfl
theorem agV {tf : Tr zav} {x : ztn} {cs : List zab} (h : RD tf x.d cs) : zt6 zV (.agg cs) = some (cellsOf cs) := ztc h (ztn.zs _)
section
variable {P : z8a} {tf t : Tr zav} {n d : Nat} {Q E : zbo} {J : zd3}
theorem one_cl {sz : Nat} {c : List zab} (h : c.length = sz) : ∀ (i : Nat) cs, [c][i]? = some cs -> cs.length = sz := by
 intro i cs hi; match i, hi with
 | 0, hi => simp_all
theorem zvn {w : List Nat} {X Y : T} (h : St P tf t n d) (k1 : acc P.tk w n = true -> ∀ t', St P tf t' (n + 1) d -> wpT C30.base (WqE C30 F zct zuz E) J X t' Q) (k2 : acc P.tk w n = false -> ∀ t', St P tf t' n d -> wpT C30.base (WqE C30 F zct zuz E) J Y t' Q) :
  wpT C30.base (WqE C30 F zct zuz E) J (.call 72 [.ptr P.bp 0, .str w] fun a => .asB a fun b => .ite b X Y) t Q := by
 refine zam ?_
 rw [pW 72]; refine zzk4 h fun t' h' => zcf ?_
 cases ha : acc P.tk w n with
 | true => rw [ha] at h'; exact zag rfl (k1 ha t' h')
 | false => rw [ha] at h'; exact zaz (by simp) (k2 ha t' h')
end
end Go.Proofs
namespace Go.Proofs
open Go Go.Am
variable [zb1]
structure zze9 : Prop where
 frac : ∀ {s : List Nat} {neg : Bool} {tf t : Tr zav} {L : List Thg} {Q : zbo}, zws s -> zbe C30.base tf t L -> (∀ tf' t' cs, TLe tf tf' -> zbe C30.base tf' t' L -> RD tf' (zsj s neg).dd cs -> Q (.agg cs) t') -> Wc C30 F 74 [.str s, .bool neg] t Q
 int : ∀ {s : List Nat} {neg : Bool} {lo hi : Int} {t : Tr zav}, zws s -> zcm s = false -> -4294967296 <= lo -> hi <= 4294967296 -> ∃ i : Int, pvC C30 F 102 [.str s, .bool neg, .int .i64 lo, .int .i64 hi] t = some (.tup [.int .i64 i, .bool (zz8 s neg lo hi).isSome]) /\ ∀ j, zz8 s neg lo hi = some j -> i = j
 date : ∀ {s : List Nat} {t : Tr zav}, zfc t -> z5t s -> pvC C30 F 97 [.str s] t = some (.tup [.int .i64 (((zzid s).getD 0 : Nat) : Int), .int .i64 0])
theorem zt4 : ∀ s : List Nat, zf5 [47] s = zcm s := by
 intro s; unfold zcm; induction s with
 | nil => rfl
 | cons b s ih =>
  unfold zf5; rw [ih, List.contains_cons]; have e : zqi [47] (b :: s) = (47 == b) := by
   show (bif Nat.beq 47 b then zqi [] s else false) = _
   have : zqi [] s = true := by cases s <;> rfl
   rw [this]
   cases h : Nat.beq 47 b with
   | true => rw [zds.1 h]; simp
   | false =>
    have : ¬ 47 = b := fun e => by rw [e, Nat.beq_refl] at h; cases h
    simp [this]
  rw [e]
  cases (47 == b) <;> rfl
theorem zv6 {tk : List Tok} {k n n1 : Nat} {a : List Nat} (h : zts tk k n = .ok a n1) : zks tk k n = true /\ a = zmf tk n /\ n1 = n + 1 := by
 unfold zts at h; split at h
 ·cases h; exact ⟨by assumption, rfl, rfl⟩
 ·cases h
section
variable {P : z8a} {tf t : Tr zav} {n d : Nat} {Q E : zbo} {J : zd3} {o : PM zg5}
theorem St.at (h : St P tf t n d) {k i : Nat} (hk : zks P.tk k i = true) : ∃ x ∈ P.tk, x.kind = k /\ x.text = zmf P.tk i := by
 unfold zks at hk; unfold zmf
 cases hx : P.tk[i]? with
 | none => rw [hx] at hk; cases hk
 | some x => rw [hx] at hk; exact ⟨x, ycv hx, of_decide_eq_true hk, rfl⟩
theorem St.num (h : St P tf t n d) {i : Nat} (hk : zks P.tk 2 i = true) : zws (zmf P.tk i) := by
 obtain ⟨x, h1, h2, h3⟩ := h.at hk
 rw [<- h3]; exact (h.good x h1).1 h2
theorem St.date (h : St P tf t n d) {i : Nat} (hk : zks P.tk 3 i = true) : z5t (zmf P.tk i) := by
 obtain ⟨x, h1, h2, h3⟩ := h.at hk
 rw [<- h3]; exact (h.good x h1).2 h2
theorem zzn0 (hL : zze9) (h : St P tf t n d) (hk : Ok P rdInt d tf (dateP P.tk n) Q E) : WcE C30 F E 73 [.ptr P.bp 0] t Q := by
 refine w73 _ ?_
 unfold t73; refine zam ?_
 rw [pE 59]; refine zv4 (k := 3) (by omega) h (hk.bind fun a n1 tf1 t1 v hr hle hst hrd hk1 => ?_)
 obtain ⟨x, _, e, rfl⟩ := hrd
 obtain ⟨h1, h2, _⟩ := zv6 hr
 have hd := h.date h1
 rw [<- h2] at hd; refine zbq (agT _) (zam ?_)
 rw [pQ 97, cT1, e, hL.date (hst.glob.mono hst.ob.tle) hd, zaa]
 exact zah rfl (zaw (zah rfl (zaw (Ok.now hk1 hst rfl))))
end
end Go.Proofs
namespace Go.Proofs
open Go Go.Am
variable [zb1]
theorem z3y {t : Tr zav} {k : Nat} {i : Int} : RD t (ztn.d ⟨k, zvt, i⟩) [.int .u8 (k : Int), .bool false, .nilslice, .bool false, .nilslice, .int .i64 i] := zzjz (x := ⟨k, zvt, i⟩) zza0 zza0
theorem zzdb {t : Tr zav} {f : zf9} {cs : List zab} (h : RD t f.dd cs) : ∃ u v, cs = [.bool f.n.neg, u, .bool f.d.neg, v] /\ zt6 [.bool false, .nilslice, .bool false, .nilslice] (.agg cs) = some (cellsOf cs) /\ ∀ (k : Nat) (i : Int), RD t (ztn.d ⟨k, f, i⟩) [.int .u8 (k : Int), .bool f.n.neg, u, .bool f.d.neg, v, .int .i64 i] := by
 obtain ⟨u, v, rfl, h1, h2⟩ := Go.Am.rd_frac h
 exact ⟨u, v, rfl, ztc h (zf9.zs _), fun k i => zzjz (x := ⟨k, f, i⟩) h1 h2⟩
section
variable {P : z8a} {tf t : Tr zav} {n d : Nat} {Q E : zbo} {J : zd3} {o : PM zg5}
theorem zzda {K : zab -> T} {s : List Nat} {neg : Bool} (hL : zze9) (h : St P tf t n d) (hs : zws s) (k : ∀ tf' t' cs, TLe tf tf' -> St P tf' t' n d -> RD tf' (zsj s neg).dd cs -> wpT C30.base (WqE C30 F zct zuz E) J (K (.agg cs)) t' Q) :
  wpT C30.base (WqE C30 F zct zuz E) J (.call 74 [.str s, .bool neg] K) t Q := by
 refine zam ?_
 rw [pW 74]; exact hL.frac hs h.ob fun tf' t' cs k1 k2 k3 => k tf' t' cs k1 ⟨h.ts.mono k1, k2, h.len, h.le, h.good, h.glob.mono k1⟩ k3
theorem zzgx (hL : zze9) {neg : Bool} (h : St P tf t n d) (hk : Ok P rdXV d tf (zuv P.tk neg n) Q E) : WcE C30 F E 75 [.ptr P.bp 0, .bool neg] t Q := by
 refine w75 _ _ ?_
 unfold t75; refine zah nl (zah f1 (zat h.l1 (zaw (zam ?_))))
 rw [pE 59]; unfold zuv at hk; refine zv4 (k := 2) (by omega) h (hk.bind fun a n1 tf1 t1 v hr hle hst hrd hk1 => ?_)
 obtain ⟨x, _, e, rfl⟩ := hrd
 obtain ⟨g1, g2, g3⟩ := zv6 hr
 have hn := h.num g1
 rw [<- g2] at hn; have hnl := h.le
 subst e; refine zbq (agT _) (zag rfl (zah nl (zah f1 (zat hst.l1 (zaw ?_)))))
 have tail : ∀ (k : Nat) (t2 : Tr zav), St P tf1 t2 (n1 + 1) d -> Ok P rdXV d tf1 (if zcm x.text then .er 120 n1 else match zz8 x.text neg (-1048576) 1048576 with
   | none => .er 121 n
   | some i => .ok ⟨k, zvt, i⟩ (n1 + 1)) Q E -> jpE E 75 21 [.ptr P.bp 0, .bool neg, .int .i64 (n : Int), .int .u8 (k : Int), .int .i64 (n1 : Int), .int .u8 0, .bool false, .nilslice, .bool false, .nilslice, .int .i64 0, .int .u8 (x.kind : Int), .str x.text, .int .i64 (x.line : Int), .int .i64 (x.col : Int)] t2 Q := by
  intro k t2 h2 hk2; refine j75_21 _ _ _ _ _ _ _ _ _ _ _ _ _ _ _ ?_
  unfold z9f; refine zam ?_
  rw [pQ 66, z3e (by have := hn.1; omega), zaa, zt4]
  refine zcf ?_
  cases hs : zcm x.text with
  | true =>
   rw [hs, yab rfl] at hk2; refine zag rfl (zah nl (zah f1 (zau fun b _ _ => ?_)))
   obtain ⟨t3, k1, k2⟩ := h2.set1 (n' := n1) (by have := h2.le; omega)
   exact ⟨_, _, k1 b, zam (Ok.fail k2 hk2)⟩
  | false =>
   rw [hs, yaa (by simp)] at hk2
   refine zaz (by simp) (za3 (j75_27 _ _ _ _ _ _ _ _ _ _ _ _ _ _ ?_))
   unfold z9e; obtain ⟨i, hi, hj⟩ := hL.int (s := x.text) (neg := neg) (lo := -1048576) (hi := 1048576) (t := t2) hn hs (by omega) (by omega)
   refine zam ?_
   rw [pQ 102, hi, zaa]; refine zah rfl (zaw (zah rfl (zcf ?_)))
   cases hv : zz8 x.text neg (-1048576) 1048576 with
   | none =>
    rw [hv] at hk2; refine zag rfl (zah nl (zah f1 (zau fun b _ _ => ?_)))
    obtain ⟨t3, k1, k2⟩ := h2.set1 (n' := n) (by omega)
    exact ⟨_, _, k1 b, zam (Ok.fail k2 hk2)⟩
   | some j =>
    rw [hv] at hk2; have := hj j hv
    subst this; exact zaz (by simp) (zag rfl (zag rfl (Ok.now hk2 h2 ⟨_, rfl, z3y⟩)))
 refine zvn hst (fun ha t2 h2 => ?_) fun ha t2 h2 => ?_
 ·refine za3 (tail 5 t2 h2 ?_)
  rw [ha] at hk1; simp only [Bool.true_or, if_true] at hk1; exact hk1
 ·refine zvn h2 (fun hb t3 h3 => ?_) fun hb t3 h3 => ?_
  ·refine za3 (tail 6 t3 h3 ?_)
   rw [ha, hb] at hk1; simp only [Bool.or_true, if_true, ybq, if_false] at hk1; exact hk1
  ·rw [ha, hb] at hk1
   refine zzda hL h3 hn fun tf4 t4 cs k1 k2 k3 => ?_
   obtain ⟨u, v, rfl, hz, hd⟩ := zzdb k3
   refine zbq hz (zag rfl (zag (hd 2 0).all ?_))
   exact Ok.now (Ok.mono hk1 k1) k2 ⟨_, rfl, hd 2 0⟩
def rdOV (tf : Tr zav) (x : Option ztn) (v : zab) : Prop := match x with
 | some x => ∃ cs, v = .tup [.agg cs, .bool true] /\ RD tf x.d cs
 | none => v = .tup [.agg zV, .bool false]
theorem zzik (hL : zze9) (h : St P tf t n d) (hk : Ok P rdOV d tf (z0m P.tk n) Q E) : WcE C30 F E 47 [.ptr P.bp 0] t Q := by
 refine w47 _ ?_
 unfold t47; refine zam ?_
 rw [pQ 71, zwm h, zaa]; unfold z0m at hk; rw [zw3 (by omega), zw3 (by omega)] at hk
 refine zbq (agT _) (zag rfl (zvn h (fun ha t1 h1 => ?_) fun ha t1 h1 => ?_))
 ·rw [ha, yab rfl] at hk
  exact zag rfl (zag rfl (Ok.now hk h1 ⟨_, rfl, z3y⟩))
 rw [ha, yaa (by simp)] at hk
 refine zvn h1 (fun ha t2 h2 => ?_) fun ha t2 h2 => ?_
 ·rw [ha, yab rfl] at hk
  exact zag rfl (zag rfl (Ok.now hk h2 ⟨_, rfl, z3y⟩))
 rw [ha, yaa (by simp)] at hk
 by_cases hd : (zfo P n).kind = 3
 ·rw [decide_eq_true hd, yab rfl] at hk
  refine zag (by rw [cT0, hd]; rfl) (zam ?_)
  rw [pE 73]; refine zzn0 hL h2 (hk.bind fun a n1 tf3 t3 v hr hle hst hrd hk1 => ?_)
  subst hrd; exact zaw (zag rfl (zag rfl (Ok.now hk1 hst ⟨_, rfl, z3y⟩)))
 rw [decide_eq_false hd, yaa (by simp)] at hk
 refine zaz (by rw [cT0]; simp [zc0]; omega) (zvn h2 (fun ha t3 h3 => ?_) fun ha t3 h3 => ?_)
 ·rw [ha, yab rfl] at hk
  refine zam ?_
  rw [pW 72]; refine zzk4 h3 fun t4 h4 => zcf (zam ?_)
  rw [pE 59]; have e : (if acc P.tk zhu (n + 1) then n + 2 else n + 1) = (if acc P.tk zhu (n + 1) then n + 1 + 1 else n + 1) := by split <;> rfl
  simp only [e] at hk; refine zv4 (k := 2) (by omega) h4 (hk.bind fun a n1 tf5 t5 v hr hle hst hrd hk1 => ?_)
  obtain ⟨x, _, e, rfl⟩ := hrd
  obtain ⟨g1, g2, g3⟩ := zv6 hr
  have hn := h.num g1
  rw [<- g2, <- e] at hn; subst e; refine zbq (agT _) (zzda hL hst hn fun tf6 t6 cs k1 k2 k3 => ?_)
  obtain ⟨u, v, rfl, hz, hd⟩ := zzdb k3
  refine zbq hz (zag rfl (zag (hd 3 0).all ?_))
  exact Ok.now (Ok.mono hk1 k1) k2 ⟨_, rfl, hd 3 0⟩
 rw [ha, yaa (by simp)] at hk
 have quant : ∀ (neg : Bool) (m : Nat) (t4 : Tr zav), St P tf t4 m d -> Ok P rdOV d tf ((zuv P.tk neg m).bind fun v n1 => .ok (some v) n1) Q E →
   wpT C30.base (WqE C30 F zct zuz E) (JqE C30 F E 47) (.call 75 [.ptr P.bp 0, .bool neg] fun a => .asG zV a fun X => .ite (zfh zab.one (cV X)) (.ret (.tup [.agg (cV X), .bool true])) .fail) t4 Q := by
  intro neg m t4 h4 hk4; refine zam ?_
  rw [pE 75]; refine zzgx hL h4 (hk4.bind fun a n1 tf5 t5 v hr hle hst hrd hk1 => ?_)
  obtain ⟨cs, rfl, hx⟩ := hrd
  have hx' := hx
  obtain ⟨u, w, rfl, _⟩ := znm hx
  exact zbq (agV hx) (zag hx.all (Ok.now hk1 hst ⟨_, rfl, hx'⟩))
 refine zvn h3 (fun ha t4 h4 => ?_) fun ha t4 h4 => ?_
 ·rw [ha, yab rfl] at hk
  exact quant true _ t4 h4 hk
 rw [ha, yaa (by simp)] at hk
 by_cases hd : (zfo P n).kind = 2
 ·rw [decide_eq_true hd, yab rfl] at hk
  exact zag (by rw [cT0, hd]; rfl) (quant false _ t4 h4 hk)
 rw [decide_eq_false hd, yaa (by simp)] at hk
 exact zaz (by rw [cT0]; simp [zc0]; omega) (zag rfl (zag rfl (Ok.now hk h4 rfl)))
end
end Go.Proofs
namespace Go.Proofs
open Go Go.Am
variable [zb1]
section
variable {base : Nat} {tf t : Tr zav} {C : Ctx} {A B : List Thg}
theorem zbe.append1 {T el sz n : Nat} {l : List D} {dd : D} {v x : zab} {cs : List zab} (hT : ElTy C T el sz) (h : zbe C.base tf t (A ++ zg8 C.base sz l v :: B)) (hx : RSl tf sz [dd] x) (hl : l.length + 1 < 400000) (hn : t.get n = none) (hbase : C.base <= n) :
  ∃ t' v', zd6 C T T v x ⟨n, t⟩ = some (v', ⟨n + 1, t'⟩) /\ zbe C.base tf t' (A ++ zg8 C.base sz (l ++ [dd]) v' :: B) /\ zab.one v' = true := by
 obtain ⟨cl, h1, h2⟩ := hx
 have hv : ztj C.base tf t sz l v := h.ok (zg8 C.base sz l v) (by simp)
 obtain ⟨c, r, rfl, h3, h4⟩ := zcg.1 h2
 rw [zdl] at h4; subst h4; obtain ⟨t', k1, k2, k3, k4⟩ := z0y hT (m := [dd]) hv (h1.mono h.tle) h2 (by
  have := h3.all
  rw [zc5, ycb] at this; simpa using this) (by simp) (by simpa using hl) hn hbase h.tle
 refine ⟨t', _, k1, ?_, rfl⟩
 refine zbe.upd (o := zg8 C.base sz l v) h (fun k h1 h2 => k4 k ?_ (fun e => h1 (zqu.2 e))) (fun k hk => ?_) k2 (by simp [zg8, zzoa]) k3
 all_goals grind [zg8, zzoa]
end
abbrev formsC : List zab := [.str [108, 111, 111, 107], .int .u8 6, .bool true, .int .i64 1, .int .i64 2, .str [109, 105, 110], .int .u8 11, .bool false, .int .i64 2, .int .i64 2, .str [109, 97, 120], .int .u8 12, .bool false, .int .i64 2, .int .i64 2, .str [98, 101, 116, 119, 101, 101, 110], .int .u8 20, .bool false, .int .i64 2, .int .i64 2, .str [105, 102], .int .u8 18, .bool false, .int .i64 3, .int .i64 3, .str [114, 111, 117, 110, 100], .int .u8 19, .bool false, .int .i64 2, .int .i64 2, .str [115, 101, 114, 118, 105, 99, 101], .int .u8 21, .bool true, .int .i64 2, .int .i64 2, .str [103, 114, 111, 119], .int .u8 23, .bool true, .int .i64 2, .int .i64 2, .str [98, 101, 115, 116], .int .u8 22, .bool true, .int .i64 3, .int .i64 3, .str [109, 111, 110, 116, 104, 115], .int .u8 24, .bool false, .int .i64 1, .int .i64 1, .str [110, 117, 109, 98, 101, 114], .int .u8 25, .bool false, .int .i64 1, .int .i64 1, .str [115, 116, 97, 114, 116], .int .u8 26, .bool false, .int .i64 1, .int .i64 1]
section
variable {P : z8a} {tf t : Tr zav} {n d : Nat} {Q E : zbo} {J : zd3} {o : PM zg5}
theorem St.box {b : Nat} {v : zab} (h : St P tf t n d) (hb : t.get b = none) : ∃ tf' t', zx9 v ⟨b, t⟩ = some (.ptr b 0, ⟨b + 1, t'⟩) /\ TLe tf tf' /\ St P tf' t' n d /\ Cel tf' b none v.cells := by
 obtain ⟨t', h1, ⟨c, h2, h2'⟩, h3, h4⟩ := zxx (v := v) hb
 have ho := h.ob.junk hb h4
 have hfb := h.ob.tfn hb
 obtain ⟨k1, k2⟩ := ho.froze (fun hm => h.ob.fresh hb hm) h2 hfb
 exact ⟨_, t', h1, k2, ⟨h.ts.mono k2, k1, h.len, h.le, h.good, h.glob.mono k2⟩, c, by rw [Tr.get_set, yab rfl], h2'⟩
abbrev oArgs (l : List zg5) (v : zab) : Thg := zg8 C30.base 9 (l.map zg5.d) v
end
end Go.Proofs
namespace Go.Proofs
open Go Go.Am
variable [zb1]
section
variable {P : z8a} {tf t : Tr zav} {n d : Nat} {Q E : zbo} {J : zd3} {o : PM zg5} {ob : Thg}
abbrev c6 (f : CF) (w : List Nat) (m : Nat) (v : zab) : List zab := [.int .u8 (f.op : Int), .str w, .int .u8 0, .bool false, .nilslice, .bool false, .nilslice, .int .i64 (m : Int), v]
end
end Go.Proofs
namespace Go.Proofs
open Go Go.Am
theorem zzny (n : Nat) : ∀ s : List Nat, s.foldl (fun n b => n * 10 + (b - 48)) n = n * 10 ^ s.length + ze6 s := by
 intro s; induction s generalizing n with
 | nil => simp [ze6]
 | cons b s ih =>
  show s.foldl _ (n * 10 + (b - 48)) = _ + s.foldl _ (0 * 10 + (b - 48))
  rw [ih, ih, ybn, yag]; grind
theorem zq4 (a b : List Nat) : ze6 (a ++ b) = ze6 a * 10 ^ b.length + ze6 b := by
 unfold ze6; rw [List.foldl_append, zzny]; rfl
theorem zoi (a : List Nat) (x : Nat) : ze6 (a ++ [x]) = ze6 a * 10 + (x - 48) := by
 rw [zq4]; simp [ze6]
theorem zpi : ∀ {s : List Nat}, (∀ b ∈ s, zba b = true) -> ze6 s < 10 ^ s.length := by
 intro s; induction s with
 | nil => intro _; simp [ze6]
 | cons b s ih =>
  intro h; have h1 := h b (by simp)
  have h2 := ih fun c hc => h c (by simp [hc])
  have : ze6 (b :: s) = (b - 48) * 10 ^ s.length + ze6 s := by
   have := zq4 [b] s
   simpa [ze6] using this
  rw [this, ybn, yag]; unfold zba at h1; simp only [ybb, decide_eq_true_eq] at h1; have : (b - 48) * 10 ^ s.length <= 9 * 10 ^ s.length := ybi _ (by omega)
  omega
theorem zzic {s : List Nat} (hd : ∀ b ∈ s, zba b = true) (h0 : s ≠ []) (hp : s.head? ≠ some 48) : 0 < ze6 s := by
 cases s with
 | nil => exact absurd rfl h0
 | cons b s =>
  have h1 := hd b (by simp)
  unfold zba at h1; simp only [ybb, decide_eq_true_eq] at h1; have : ze6 (b :: s) = (b - 48) * 10 ^ s.length + ze6 s := by
   have := zq4 [b] s
   simpa [ze6] using this
  rw [this]; have hb : b ≠ 48 := fun e => hp (by simp [e])
  have : 1 * 10 ^ s.length <= (b - 48) * 10 ^ s.length := ybi _ (by omega)
  have : 0 < 10 ^ s.length := Nat.pow_pos (by omega)
  omega
theorem zi6 (n : Nat) : val 65536 (l16 n) = n := by
 induction n using Nat.strongRecOn with
 | ind n ih =>
  unfold l16; split
  ·rename_i h; simp [val, h]
  ·show n % 65536 + 65536 * val 65536 (l16 (n / 65536)) = n
   rw [ih _ (by omega)]
   omega
theorem zei (n : Nat) : za2 65536 (l16 n) := by
 induction n using Nat.strongRecOn with
 | ind n ih =>
  unfold l16; split
  ·intro x hx; cases hx
  ·intro x hx
   rcases ybs.1 hx with rfl | hx
   ·omega
   ·exact ih _ (by omega) x hx
theorem znv (n : Nat) : norm (l16 n) := by
 induction n using Nat.strongRecOn with
 | ind n ih =>
  unfold l16; split
  ·intro h; exact absurd rfl h
  ·intro h
   have h2 := ih (n / 65536) (by omega)
   by_cases h3 : l16 (n / 65536) = []
   ·simp only [h3, List.getLast_singleton]
    have h4 := zi6 (n / 65536)
    rw [h3] at h4; have : n / 65536 = 0 := h4.symm
    omega
   ·rw [List.getLast_cons h3]
    exact h2 h3
theorem zzcn {l : List Nat} {n : Nat} (h1 : za2 65536 l) (h2 : norm l) (h3 : val 65536 l = n) : l = l16 n :=
 z4v (B := 65536) (by omega) h1 (zei n) h2 (znv n) (by rw [zi6, h3])
theorem zm5 {n : Nat} : l16 n = [] ↔ n = 0 := by
 constructor
 ·intro h
  have := zi6 n
  rw [h] at this; exact this.symm
 ·intro h; subst h; unfold l16; rfl
theorem zzco {n k : Nat} (h : n < 65536 ^ k) : (l16 n).length <= k := by
 induction k generalizing n with
 | zero =>
  have : n = 0 := by simpa using h
  rw [zm5.2 this]; simp
 | succ k ih =>
  unfold l16; split
  ·simp
  ·have : n / 65536 < 65536 ^ k := by
    rw [yag] at h; exact ycu (by rw [ybh]; exact h)
   have := ih this
   simp; omega
end Go.Proofs
