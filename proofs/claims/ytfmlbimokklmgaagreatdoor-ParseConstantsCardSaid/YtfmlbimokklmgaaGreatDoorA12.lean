/- Seat 30: types, functions, variables, what the library's functions are worth; awake. -/
import Derived.ProofKit
import Derived.Test.YtfmlbimokklmgaaGreatDoorA09
import Derived.Test.YtfmlbimokklmgaaGreatDoorA10
import Derived.Test.YtfmlbimokklmgaaGreatDoorA11
set_option linter.all false
noncomputable section
set_option maxRecDepth 100000
namespace Go.Am
open Go Go.RowKit Go.Proofs
theorem z84 : allT (fun t ty => match tyOf Tryz.prog t with | some u => eqTy u ty | none => false) tys (fun n => n) = true := by kernel_rfl
theorem zzi7 {C : Ctx} (hC : C.tys = tys) : zdh Tryz.prog C := by
 intro t ty h; rw [hC] at h; have := zzod tys _ z84 t ty h
 cases hu : tyOf Tryz.prog t with
 | none => rw [hu] at this; cases this
 | some u => rw [hu] at this; rw [zznr this]
theorem z2k : (Tryz.funcs.toList.all fun fn => !(fn.name == "runtime.NumGoroutine")) = true := by kernel_rfl
theorem zzde {C : Ctx} (hC : C.fns = fns) : z06 Tryz.prog C := by
 intro f fn h; rw [hC] at h; unfold fns at h; rw [Tr.get_ofList] at h; have h2 : Tryz.prog.funcs[f]? = some fn := by
  show Tryz.funcs[f]? = some fn
  simpa using h
 refine ⟨h2, ?_⟩
 have := ycb.1 z2k fn (ycv h)
 simpa using this
structure zd2 (w : World) : Prop where
 kinds : ∃ t, w.heap[1]? = some (.cells (z6i zw4).toArray t (0, 0))
 modes : ∃ t, w.heap[4]? = some (.cells (z6i zww).toArray t (0, 0))
 lens : ∃ t, w.heap[2]? = some (.cells (zzfe zzhe).toArray t (0, 0))
 most : ∃ m, w.cell? ⟨0, 0, none⟩ = some (.int .i64 m)
theorem zd2.size {w : World} (h : zd2 w) : 5 <= w.heap.size := by
 obtain ⟨t, h⟩ := h.modes
 have := (ybe.1 h).1
 omega
theorem zd2.below {w w' : World} {N : Nat} (hN : 5 <= N) (h : zd2 w) (hb : Below N w w') : zd2 w' := by
 refine ⟨?_, ?_, ?_, ?_⟩
 ·obtain ⟨t, h⟩ := h.kinds; exact ⟨t, by rw [hb.block 1 (by omega)]; exact h⟩
 ·obtain ⟨t, h⟩ := h.modes; exact ⟨t, by rw [hb.block 4 (by omega)]; exact h⟩
 ·obtain ⟨t, h⟩ := h.lens; exact ⟨t, by rw [hb.block 2 (by omega)]; exact h⟩
 ·obtain ⟨m, h⟩ := h.most; exact ⟨m, by rw [hb.cell (p := ⟨0, 0, none⟩) (by show 0 < N; omega)]; exact h⟩
theorem hrel30 {w : World} (h : zd2 w) : zbp 256 w.heap.size mu0 H30 w := by
 have hget : ∀ a x, H30.t.get a = some x -> (a = 1 /\ x = .cells (Tr.ofList (zzjn zw4)) (zbf (zzjn zw4)) none) \/ (a = 4 /\ x = .cells (Tr.ofList (zzjn zww)) (zbf (zzjn zww)) none) \/ (a = 2 /\ x = .cells (Tr.ofList (intA .i64 zzhe)) (zbf (intA .i64 zzhe)) none) := by
  intro a x hx; have hx : (glob 1 (zzjn zw4) (glob 4 (zzjn zww) (glob 2 (intA .i64 zzhe) .leaf))).get a = some x := hx
  unfold glob at hx; rw [Tr.get_set, Tr.get_set, Tr.get_set] at hx; split at hx
  ·rename_i e; exact .inl ⟨e, (yci hx).symm⟩
  ·split at hx
   ·rename_i e; exact .inr (.inl ⟨e, (yci hx).symm⟩)
   ·split at hx
    ·rename_i e; exact .inr (.inr ⟨e, (yci hx).symm⟩)
    ·rw [Tr.get_leaf] at hx; cases hx
 have hsz := h.size
 refine ⟨ybk _, fun g hg => by simp [mu0, hg], fun a x i _ hx hi => ?_, ybk _, ybk _, fun a ha => ?_, fun a x i hx hi => ?_, fun a i ha hi => ?_, fun a b x y i j hx _ _ _ ha _ _ => ?_, fun a x t ha => by cases ha⟩
 ·rcases hget a x hx with ⟨rfl, rfl⟩ | ⟨rfl, rfl⟩ | ⟨rfl, rfl⟩ <;> cases hi <;> exact ⟨Nat.lt_of_lt_of_le (by decide) hsz, rfl, rfl⟩
 ·have ha : 256 <= a := ha
  refine ⟨by simp [mu0]; omega, ?_⟩
  cases hx : H30.t.get a with
  | none => rfl
  | some x => rcases hget a x hx with ⟨rfl, _⟩ | ⟨rfl, _⟩ | ⟨rfl, _⟩ <;> omega
 ·rcases hget a x hx with ⟨rfl, rfl⟩ | ⟨rfl, rfl⟩ | ⟨rfl, rfl⟩
  ·obtain ⟨t, h⟩ := h.kinds; cases hi; exact ⟨_, h, zs0 (zv7 zw4) t⟩
  ·obtain ⟨t, h⟩ := h.modes; cases hi; exact ⟨_, h, zs0 (zv7 zww) t⟩
  ·obtain ⟨t, h⟩ := h.lens; cases hi; exact ⟨_, h, zs0 (z5b zzhe) t⟩
 ·simp [mu0] at hi; omega
 ·rcases hget a x hx with ⟨rfl, _⟩ | ⟨rfl, _⟩ | ⟨rfl, _⟩ <;> omega
theorem zhd {s : ByteArray} {l : List Nat} (h : zb8 s = l) : s.data.toList.map UInt8.toNat = l := h
theorem zsp {f : Nat} {fn : Func} (hf : Tryz.funcs[f]? = some fn) (hb : fn.body.isSome = true) {args : Array Value} {w : World} : (callFunc f args).run Tryz.prog w = .ok (.enter f args) w :=
 zis (C := C30w) (zzde rfl) (show fns.get f = some fn by unfold fns; rw [Tr.get_ofList]; simpa using hf) hb
theorem z5u (c : UInt8) : ∀ s : List UInt8, zjy c.toNat (s.map UInt8.toNat) = Lib.countByte s c
 | [] => rfl
 | b :: l => by
  have ih := z5u c l
  unfold Lib.countByte at ih ⊢
  simp only [ycm, zjy, zay]; rw [List.count_cons]; by_cases h : b = c
  ·subst h; simp [ih]
  ·have : ¬ Nat.beq b.toNat c.toNat = true := fun e => h (UInt8.toNat_inj.1 (zds.1 e))
   rw [yaa this, ih]; simp [h]
section
variable {B N : Nat} {μ : Mu} {H : zaf} {w : World} {args : List zab} {args' : Array Value} {v : zab}
theorem zqn {a b : zab} (h : zbw μ [a, b] args'.toList) : ∃ x y, args' = #[x, y] /\ zaq μ a x /\ zaq μ b y := by
 rw [zbw] at h; obtain ⟨x, r, h1, h2, h3⟩ := h
 rw [zbw] at h3; obtain ⟨y, r', h4, h5, h6⟩ := h3
 rw [zbw] at h6; subst h4 h6
 exact ⟨x, y, by apply yax.1; simpa using h1, h2, h5⟩
theorem zuw (hv : zjl args H = some v) (hl : zbw μ args args'.toList) :
  (callFunc 107 args').run Tryz.prog w = .ok (.enter 107 args') w /\ Calls Tryz.prog 107 args' w fun e w' => ∃ v', e = .returned v' /\ zaq μ v v' /\ Below w.heap.size w w' := by
 refine ⟨zsp (fn := Tryz.f107) Tryz.func107 (by kernel_rfl), ?_⟩
 unfold zjl at hv; split at hv
 case h_2 => cases hv
 rename_i s c; rw [zae, zdk] at hv; obtain ⟨hc, hv⟩ := hv
 cases hv; obtain ⟨x, y, rfl, hx, hy⟩ := zqn hl
 simp only [zaq] at hx hy; obtain ⟨s', rfl, hs⟩ := hx
 subst hy; refine (Tryz.strings_IndexByte s' (Int.ofNat c) w).mono fun e w' ⟨he, hw⟩ => ?_
 subst hw; refine ⟨_, he, ?_, Below.refl _ _⟩
 have hcc : (c.toUInt8).toNat = c := by simp [Nat.toUInt8, UInt8.toNat_ofNat']; omega
 have := z5c c.toUInt8 s'.data.toList
 rw [hcc, zhd hs] at this; rw [zaq]; show Value.int .i64 (Lib.indexByte s'.data.toList c.toUInt8) = _
 rw [<- this]
theorem zux (hv : zzm args H = some v) (hl : zbw μ args args'.toList) :
  (callFunc 54 args').run Tryz.prog w = .ok (.enter 54 args') w /\ Calls Tryz.prog 54 args' w fun e w' => ∃ v', e = .returned v' /\ zaq μ v v' /\ Below w.heap.size w w' := by
 refine ⟨zsp (fn := Tryz.f54) Tryz.func54 (by kernel_rfl), ?_⟩
 unfold zzm at hv; split at hv
 case h_2 => cases hv
 rename_i s c
 cases hv; obtain ⟨x, y, rfl, hx, hy⟩ := zqn hl
 rw [zaq] at hx hy; obtain ⟨s', rfl, hs⟩ := hx
 obtain ⟨c', rfl, hc⟩ := hy
 obtain ⟨b, hb, hbc⟩ : ∃ b : UInt8, c' = ⟨#[b]⟩ /\ b.toNat = c := by
  have h1 := zhd hc
  obtain ⟨⟨l⟩⟩ := c'
  match l, h1 with
  | [b], h1 => exact ⟨b, rfl, by simpa using h1⟩
 subst hb; refine (Tryz.strings_Count_one s' b w).mono fun e w' ⟨he, hw⟩ => ?_
 subst hw; refine ⟨_, he, ?_, Below.refl _ _⟩
 have := z5u b s'.data.toList
 rw [hbc, zhd hs] at this; rw [zaq, <- this]; rfl
theorem zno (hI : zd2 w) (hv : zjm args H = some v) (hl : zbw μ args args'.toList) :
  (callFunc 66 args').run Tryz.prog w = .ok (.enter 66 args') w /\ Calls Tryz.prog 66 args' w fun e w' => ∃ v', e = .returned v' /\ zaq μ v v' /\ Below w.heap.size w w' := by
 refine ⟨zsp (fn := Tryz.f66) Tryz.func66 (by kernel_rfl), ?_⟩
 unfold zjm at hv; split at hv
 case h_2 => cases hv
 rename_i s c; rw [zae, zdk, za1] at hv; obtain ⟨hlen, hv⟩ := hv
 cases hv; obtain ⟨x, y, rfl, hx, hy⟩ := zqn hl
 rw [zaq] at hx hy; obtain ⟨s', rfl, hs⟩ := hx
 obtain ⟨c', rfl, hc⟩ := hy
 obtain ⟨m, hm⟩ := hI.most
 have hsz : s'.size < 4294967281 := by
  have := congrArg List.length (zhd hs)
  simp at this; omega
 refine (Tryz.strings_Contains s' c' m w hsz hm).mono fun e w' ⟨he, hw⟩ => ?_
 subst hw; refine ⟨_, he, ?_, Below.refl _ _⟩
 have := zsy c'.data.toList s'.data.toList
 rw [zhd hs, zhd hc] at this; rw [zaq, this]
theorem z4n (hI : zd2 w) (hv : pCut args H = some v) (hl : zbw μ args args'.toList) :
  (callFunc 98 args').run Tryz.prog w = .ok (.enter 98 args') w /\ Calls Tryz.prog 98 args' w fun e w' => ∃ v', e = .returned v' /\ zaq μ v v' /\ Below w.heap.size w w' := by
 refine ⟨zsp (fn := Tryz.f98) Tryz.func98 (by kernel_rfl), ?_⟩
 unfold pCut at hv; split at hv
 case h_2 => cases hv
 rename_i s c; rw [zae, zdk, za1] at hv; obtain ⟨hlen, hv⟩ := hv
 obtain ⟨x, y, rfl, hx, hy⟩ := zqn hl
 rw [zaq] at hx hy; obtain ⟨s', rfl, hs⟩ := hx
 obtain ⟨c', rfl, hc⟩ := hy
 obtain ⟨m, hm⟩ := hI.most
 have hsz : s'.size < 4294967281 := by
  have := congrArg List.length (zhd hs)
  simp at this; omega
 refine (Tryz.strings_Cut s' c' m w hsz hm).mono fun e w' ⟨he, n, hw⟩ => ?_
 subst hw; have hb : Below w.heap.size w (w.drewN n) := ⟨rfl, rfl, rfl, ybk _, fun _ _ => rfl⟩
 refine ⟨_, he, ?_, hb⟩
 have hcut := zzkw c'.data.toList s'.data.toList
 rw [zhd hs, zhd hc] at hcut
 cases hx : zzig c s with
 | none =>
  rw [hx] at hcut hv
  cases hv; have hcut : Lib.index s'.data.toList c'.data.toList = -1 := hcut
  have e : Lib.cut s'.data.toList c'.data.toList = (s'.data.toList, [], false) := by unfold Lib.cut; rw [hcut]; rfl
  rw [e, zaq]; exact ⟨_, rfl, .cons (by rw [zaq]; exact ⟨_, rfl, by rw [<- hs]⟩) (.cons (by rw [zaq]; exact ⟨_, rfl, by simp [zb8]⟩) (.single (by rw [zaq])))⟩
 | some p =>
  rw [hx] at hcut hv
  cases hv; obtain ⟨a, b, rfl, h1, h2, h3⟩ := hcut
  have e : Lib.cut s'.data.toList c'.data.toList = (a, b, true) := by unfold Lib.cut; rw [yab h1, h2, h3]
  rw [e, zaq]; exact ⟨_, rfl, .cons (by rw [zaq]; exact ⟨_, rfl, by simp [zb8]⟩) (.cons (by rw [zaq]; exact ⟨_, rfl, by simp [zb8]⟩) (.single (by rw [zaq])))⟩
end
section
variable {B N : Nat} {μ : Mu} {H H' : zaf} {w : World} {args : List zab} {args' : Array Value} {v : zab}
theorem z6s {base : Nat} (hbase : B <= base) (hH : zbp B N μ H w) (hv : z4q base z2n args H = some (v, H')) (hl : zbw μ args args'.toList) :
  (callFunc 82 args').run Tryz.prog w = .ok (.enter 82 args') w /\ Calls Tryz.prog 82 args' w fun e w' => ∃ v' μ', e = .returned v' /\ μ.le μ' /\ zbp B N μ' H' w' /\ Below N w w' /\ zaq μ' v v' :=
 zzbd hbase (fun p hp b n w h1 h2 h3 h4 => by
  obtain rfl : p = (110, 2) := by simpa [z2n] using hp
  exact zxu b n w h1 h2 (show 1 < n from h3) h4) (fun b w h => z0p b w h) (fun w a => zsp (fn := Tryz.f82) Tryz.func82 (by kernel_rfl)) hH hv hl
theorem z19 {base : Nat} (hbase : B <= base) (hH : zbp B N μ H w) (hv : zwq base 5 args H = some (v, H')) (hl : zbw μ args args'.toList) :
  (callFunc 52 args').run Tryz.prog w = .ok (.enter 52 args') w /\ Calls Tryz.prog 52 args' w fun e w' => ∃ v' μ', e = .returned v' /\ μ.le μ' /\ zbp B N μ' H' w' /\ Below N w w' /\ zaq μ' v v' :=
 z6u Tryz.lays169 Tryz.Builder_Extra_169 (f := 52) rfl hbase (fun w a => zsp (fn := Tryz.f52) Tryz.func52 (by kernel_rfl)) hH hv hl
end
theorem zfu {α : Type} {t : Tr α} {i j : Nat} {x y : α} (h : (t.set i x).get j = some y) : (j = i /\ x = y) \/ t.get j = some y := by
 rw [Tr.get_set] at h; split at h
 ·rename_i e; exact .inl ⟨e, yci h⟩
 ·exact .inr h
theorem z18 (N : Nat) : ztg Tryz.prog C30w 256 N zd2 := by
 intro f g hg args H v H' hv μ w args' hH hI hl; have hg : zwj.get f = some g := hg
 unfold zwj at hg; rcases zfu hg with ⟨rfl, rfl⟩ | hg
 ·exact zfx hv hH fun hv => zux hv hl
 rcases zfu hg with ⟨rfl, rfl⟩ | hg
 ·exact zfx hv hH fun hv => z4n hI hv hl
 rcases zfu hg with ⟨rfl, rfl⟩ | hg
 ·exact zfx hv hH fun hv => zno hI hv hl
 rcases zfu hg with ⟨rfl, rfl⟩ | hg
 ·exact zfx hv hH fun hv => zuw hv hl
 ·rw [Tr.get_leaf] at hg; cases hg
theorem sim30w (N : Nat) (hN : 5 <= N) : Sim Tryz.prog C30w 256 N zd2 :=
 ⟨zzi7 rfl, zzde rfl, z18 N, ybk _, by kernel_rfl, fun _ _ hb h => h.below hN hb⟩
theorem z1k {C : Ctx} {f n : Nat} {args : List zab} {args' : Array Value} {w : World} (hw : zd2 w) (hS : Sim Tryz.prog C 256 w.heap.size zd2) (hroot : C.root = f) (hl : zbw mu0 args args'.toList)
  (h : fin (zzl8 C n (zzad C f args H30)) = 1) : Calls Tryz.prog f args' w fun e w' => e = .returned (.bool true) /\ Below w.heap.size w w' := by
 obtain ⟨H', hr⟩ := zznk h
 unfold zzad at hr; have stuck : ∀ (n k : Nat), zzl8 C n (.fail k) = .fail k := by
  intro n; induction n with
  | zero => intro k; rfl
  | succ n ih =>
   intro k; show zzl8 C n (zzl8 C n (.fail k)) = _
   rw [ih, ih]
 cases he : zeg C f args false with
 | none =>
  rw [he] at hr; rw [stuck] at hr
  cases hr
 | some g =>
  rw [he] at hr; refine (z0r hS hw hroot (hrel30 hw) hl he hr).mono fun e w' ⟨v', μ', h1, _, h3, _, h5⟩ => ?_
  rw [zaq] at h3; exact ⟨by rw [h1, h3], h5⟩
theorem z3m {w : World} (hw : zd2 w) : Calls Tryz.prog 9 #[] w fun e w' => e = .returned (.bool true) /\ Below w.heap.size w w' :=
 z1k hw (sim30w _ hw.size) rfl .nil zzet
theorem z6t {μ : Mu} {H : zaf} {w : World} {args : List zab} {args' : Array Value} {v : zab} (hI : zd2 w) (hv : zzgy args H = some v) (hl : zbw μ args args'.toList) :
  (callFunc 9 args').run Tryz.prog w = .ok (.enter 9 args') w /\ Calls Tryz.prog 9 args' w fun e w' => ∃ v', e = .returned v' /\ zaq μ v v' /\ Below w.heap.size w w' := by
 refine ⟨zsp (fn := Tryz.f9) Tryz.func9 (by kernel_rfl), ?_⟩
 unfold zzgy at hv; split at hv
 case h_2 => cases hv
 cases hv; rw [zbw] at hl; have : args' = #[] := by apply yax.1; simpa using hl
 subst this; exact (z3m hI).mono fun e w' ⟨h1, h2⟩ => ⟨_, h1, by rw [zaq], h2⟩
end Go.Am
namespace Go.Am
open Go Go.RowKit
@[simp] theorem zar {α : Type} {x : Option α} : zaj true x = x := rfl
inductive D where
 | int (k : IntKind) (n : Int)
 | bool (b : Bool)
 | str (s : List Nat)
 | sl (sz : Nat) (l : List D)
 | st (l : List D)
def At (t : Tr zav) (b off : Nat) (cs : List zab) : Prop := ∃ c n lo, t.get b = some (.cells c n lo) /\ ∀ (j : Nat) a, cs[j]? = some a -> c.get (off + j) = some a
def zm8 (t : Tr zav) (sz : Nat) (v : zab) (cl : List (List zab)) : Prop :=
 (v = .nilslice /\ cl = []) \/ ∃ b off cap, v = .slice b off cl.length cap /\ cl.length <= cap /\ (∃ c n lo, t.get b = some (.cells c n lo) /\ (lo = none \/ ∃ x, lo = some x /\ x.es = sz)) /\ ∀ (i : Nat) cs, cl[i]? = some cs -> cs.length = sz /\ At t b (off + i * sz) cs
mutual
/-- cells read as data -/
def RD (t : Tr zav) : D -> List zab -> Prop
 | .int k n, cs => cs = [.int k n]
 | .bool b, cs => cs = [.bool b]
 | .str s, cs => cs = [.str s]
 | .sl sz l, cs => ∃ a cl, cs = [a] /\ zm8 t sz a cl /\ RDs t l cl
 | .st l, cs => ∃ cl, cs = cl.flatten /\ RDs t l cl
def RDs (t : Tr zav) : List D -> List (List zab) -> Prop
 | [], cl => cl = []
 | d :: l, cl => ∃ c r, cl = c :: r /\ RD t d c /\ RDs t l r
end
def TLe (t t' : Tr zav) : Prop := ∀ b y, t.get b = some y -> t'.get b = some y
theorem TLe.refl (t : Tr zav) : TLe t t := fun _ _ h => h
theorem TLe.trans {a b c : Tr zav} (h : TLe a b) (k : TLe b c) : TLe a c := fun x y e => k x y (h x y e)
section
variable {t t' : Tr zav} {C : Ctx}
theorem At.mono (h : TLe t t') {b off : Nat} {cs : List zab} (k : At t b off cs) : At t' b off cs := by
 obtain ⟨c, n, lo, h1, h2⟩ := k; exact ⟨c, n, lo, h _ _ h1, h2⟩
theorem zm8.mono (h : TLe t t') {sz : Nat} {v : zab} {cl : List (List zab)} (k : zm8 t sz v cl) : zm8 t' sz v cl := by
 rcases k with k | ⟨b, off, cap, h1, h3, ⟨c, n, lo, h4, h5⟩, h2⟩
 ·exact .inl k
 ·exact .inr ⟨b, off, cap, h1, h3, ⟨c, n, lo, h _ _ h4, h5⟩, fun i cs hi => ⟨(h2 i cs hi).1, (h2 i cs hi).2.mono h⟩⟩
mutual
theorem RD.mono (h : TLe t t') : ∀ (d : D) (cs : List zab), RD t d cs -> RD t' d cs
 | .int _ _, _, k => k
 | .bool _, _, k => k
 | .str _, _, k => k
 | .sl _ l, _, ⟨a, cl, h1, h2, h3⟩ => ⟨a, cl, h1, h2.mono h, RDs.mono h l cl h3⟩
 | .st l, _, ⟨cl, h1, h2⟩ => ⟨cl, h1, RDs.mono h l cl h2⟩
theorem RDs.mono (h : TLe t t') : ∀ (l : List D) (cl : List (List zab)), RDs t l cl -> RDs t' l cl
 | [], _, k => k
 | d :: l, _, ⟨c, r, h1, h2, h3⟩ => ⟨c, r, h1, RD.mono h d c h2, RDs.mono h l r h3⟩
end
theorem RDs.length : ∀ {l : List D} {cl : List (List zab)}, RDs t l cl -> cl.length = l.length := by
 intro l; induction l with
 | nil => grind [RDs]
 | cons d l ih => grind [RDs]
theorem RDs.get : ∀ {l : List D} {cl : List (List zab)} {i : Nat} {d : D}, RDs t l cl -> l[i]? = some d -> ∃ cs, cl[i]? = some cs /\ RD t d cs := by
 intro l; induction l with
 | nil => simp_all
 | cons e l ih =>
  grind [RDs]
theorem RDs.mk : ∀ {l : List D} {cl : List (List zab)}, cl.length = l.length -> (∀ (i : Nat) d cs, l[i]? = some d -> cl[i]? = some cs -> RD t d cs) -> RDs t l cl := by
 intro l; induction l with
 | nil => grind [RDs]
 | cons e l ih =>
  intro cl h k
  cases cl with
  | nil => simp at h
  | cons c r =>
   rw [RDs]; exact ⟨c, r, rfl, k 0 e c (by simp) (by simp), ih (by grind) fun i d cs h1 h2 => k (i + 1) d cs (by simp_all) (by simp_all)⟩
@[simp] theorem zkv {k : IntKind} {n : Int} {cs : List zab} : RD t (.int k n) cs ↔ cs = [.int k n] := Iff.rfl
@[simp] theorem zx5 {b : Bool} {cs : List zab} : RD t (.bool b) cs ↔ cs = [.bool b] := Iff.rfl
@[simp] theorem zvr {s : List Nat} {cs : List zab} : RD t (.str s) cs ↔ cs = [.str s] := Iff.rfl
def RSl (t : Tr zav) (sz : Nat) (l : List D) (v : zab) : Prop := ∃ cl, zm8 t sz v cl /\ RDs t l cl
theorem RSl.mono (h : TLe t t') {sz : Nat} {l : List D} {v : zab} (k : RSl t sz l v) : RSl t' sz l v := by
 obtain ⟨cl, h1, h2⟩ := k; exact ⟨cl, h1.mono h, RDs.mono h _ _ h2⟩
theorem z79 {sz : Nat} {l : List D} {cs : List zab} : RD t (.sl sz l) cs ↔ ∃ v, cs = [v] /\ RSl t sz l v := by
 rw [RD]; constructor
 ·rintro ⟨a, cl, rfl, h1, h2⟩; exact ⟨a, rfl, cl, h1, h2⟩
 ·rintro ⟨a, rfl, cl, h1, h2⟩; grind
theorem zql {l : List D} {cs : List zab} : RD t (.st l) cs ↔ ∃ cl, cs = cl.flatten /\ RDs t l cl := by rw [RD]
theorem zdl {cl : List (List zab)} : RDs t [] cl ↔ cl = [] := by rw [RDs]
theorem zcg {d : D} {l : List D} {cl : List (List zab)} : RDs t (d :: l) cl ↔ ∃ c r, cl = c :: r /\ RD t d c /\ RDs t l r := by rw [RDs]
theorem RSl.one {sz : Nat} {l : List D} {v : zab} (h : RSl t sz l v) : zab.one v = true := by
 obtain ⟨cl, h1, _⟩ := h
 rcases h1 with ⟨rfl, _⟩ | ⟨b, off, cap, rfl, _⟩
 ·decide
 ·rfl
theorem RSl.len {sz : Nat} {l : List D} {v : zab} (h : RSl t sz l v) : zb6 v = some (.int .i64 (l.length : Int)) := by
 obtain ⟨cl, h1, h2⟩ := h
 have := h2.length
 rcases h1 with ⟨rfl, rfl⟩ | ⟨b, off, cap, rfl, _⟩
 ·have : l.length = 0 := this.symm
  rw [this]; rfl
 ·rw [<- this]; rfl
theorem RSl.same {sz d : Nat} {l : List D} {v : zab} (h : RSl t sz l v) : same d v v = true := by
 obtain ⟨cl, h1, _⟩ := h
 rcases h1 with ⟨rfl, _⟩ | ⟨b, off, cap, rfl, _⟩
 all_goals grind [Am.same, Nat.beq_refl]
theorem zsl {sz : Nat} {l : List D} {v : zab} (h : RSl t sz l v) : zzh0 .nilslice v = true := by
 obtain ⟨cl, h1, _⟩ := h
 rcases h1 with ⟨rfl, _⟩ | ⟨b, off, cap, rfl, _⟩ <;> rfl
theorem At.load {b off j n : Nat} {cs : List zab} (h : At t b off cs) {ty : Nat} {y : ATy} (hy : C.tys.get ty = some y) (ha : y.desc.isAgg = true) (hn : y.size = n) (hj : j + n <= cs.length) : zao C ty ⟨0, t⟩ (.ptr b (off + j)) = some (.agg ((cs.drop j).take n)) := by
 obtain ⟨c, m, lo, h1, h2⟩ := h
 unfold zao; simp only [zab.asPtr, zad]; rw [hy, zad]; unfold zax; rw [h1, zad]; simp only [zav.asCells, zad]; unfold znx; rw [ha, cond_true, hn]; have key : ∀ (n j : Nat), j + n <= cs.length -> c.many n (off + j) = some ((cs.drop j).take n) := by
  intro n; induction n with
  | zero => intro j _; simp; rfl
  | succ n ih =>
   intro j hj; have hlt : j < cs.length := by omega
   rw [Tr.many_succ, h2 j cs[j] (ybd hlt), zad, show off + j + 1 = off + (j + 1) by omega, ih (j + 1) (by omega), zad, ybl hlt, List.take_succ_cons]
 simp_all
theorem At.load1 {b off j : Nat} {cs : List zab} {a : zab} (h : At t b off cs) {ty : Nat} {y : ATy} (hy : C.tys.get ty = some y) (ha : y.desc.isAgg = false) (hj : cs[j]? = some a) : zao C ty ⟨0, t⟩ (.ptr b (off + j)) = some a := by
 obtain ⟨c, m, lo, h1, h2⟩ := h
 simp_all [zao, zab.asPtr, zax, zav.asCells, znx]
structure zvq (C : Ctx) (T el sz : Nat) (agg : Bool) : Prop where
 ty : ∃ y, C.tys.get T = some y /\ y.desc.asSlice = some el
 el : ∃ y, C.tys.get el = some y /\ y.size = sz /\ y.desc.isAgg = agg
def zt9 (agg : Bool) (cs : List zab) : zab := if agg then .agg cs else match cs with | a :: _ => a | [] => .nilptr
theorem zvq.at {T el sz : Nat} {agg : Bool} (h : zvq C T el sz agg) (h1 : agg = false -> sz = 1) {l : List D} {v : zab} (hr : RSl t sz l v) {i : Nat} {d : D} (hi : l[i]? = some d) :
  ∃ b off cs, zai C T v (.int .i64 (i : Int)) = some (.ptr b off) /\ zao C el ⟨0, t⟩ (.ptr b off) = some (zt9 agg cs) /\ At t b off cs /\ cs.length = sz /\ RD t d cs := by
 obtain ⟨⟨y, hy1, hy2⟩, ⟨z, hz1, hz2, hz3⟩⟩ := h
 obtain ⟨cl, he, hd⟩ := hr
 obtain ⟨cs, hc, hrd⟩ := hd.get hi
 rcases he with ⟨rfl, rfl⟩ | ⟨b, off, cap, rfl, _, _, he⟩
 ·simp at hc
 ·obtain ⟨hl, ha⟩ := he i cs hc
  have hlt : i < cl.length := (ybc.1 hc).1
  refine ⟨b, off + i * sz, cs, ?_, ?_, ha, hl, hrd⟩
  ·unfold zai
   rw [hy1, zad]; have : (zab.int .i64 (i : Int)).asNat = some i := rfl
   rw [this, zad]; simp only [zab.asSlice]; rw [hy2, zad, hz1, zad, zdk.2 hlt, hz2]; rfl
  ·cases agg with
   | true =>
    have := ha.load (j := 0) hz1 hz3 hz2 (by omega)
    simp only [yct, ycr] at this; rw [this, <- hl, List.take_length]; rfl
   | false =>
    have hs := h1 rfl
    cases cs with
    | nil => simp_all
    | cons a r =>
     have := ha.load1 (j := 0) (a := a) hz1 hz3 (by simp)
     rw [yct] at this; rw [this]; rfl
end
section
variable {t : Tr zav} {C : Ctx}
theorem zvq.front {T el sz : Nat} {agg : Bool} (h : zvq C T el sz agg) {l : List D} {v : zab} (hr : RSl t sz l v) {k : Nat} (hk : k <= l.length) :
  ∃ v', zcb C T ⟨0, t⟩ v none (some (.int .i64 (k : Int))) = some v' /\ RSl t sz (l.take k) v' := by
 obtain ⟨⟨y, hy1, hy2⟩, ⟨z, hz1, hz2, hz3⟩⟩ := h
 obtain ⟨cl, he, hd⟩ := hr
 have hlen := hd.length
 unfold zcb; rw [hy1, zad]; have hb : ∀ y, zlp y (.int .i64 (k : Int)) = zaj (Nat.ble k y) (some k) := fun y => rfl
 rcases he with ⟨rfl, rfl⟩ | ⟨b, off, cap, rfl, hcap, ⟨c, n, lo, hg, hlo⟩, he⟩
 ·have : k = 0 := by grind
  subst this; refine ⟨.nilslice, ?_, [], .inl ⟨rfl, rfl⟩, by simp [RDs]⟩
  unfold zga; simp only [zab.asStr, zab.asSlice, zab.asPtr]; rw [hy2, zad, hz1, zad]; rfl
 ·refine ⟨.slice b off k cap, ?_, cl.take k, .inr ⟨b, off, cap, ?_, ?_, ⟨c, n, lo, hg, hlo⟩, fun i cs hi => ?_⟩, ?_⟩
  ·unfold zga
   simp only [zab.asStr, zab.asSlice]; rw [hy2, zad]; unfold zd7; rw [hz1, zad]; unfold zfj zom; simp only [hb]; rw [show Nat.ble k cap = true from zg3.2 (by omega)]
   simp only [zar, zad]; have he2 : zdj ⟨0, t⟩ b z.size cap 0 false = false := by
    unfold zdj zax; rw [hg, zad]; simp only [zav.asCells]; rcases hlo with rfl | ⟨x, rfl, hx⟩
    ·rfl
    ·simp
   rw [he2, yay, cond_false]; have hf : zc2 ⟨0, t⟩ b z.size cap 0 false = true := by
    unfold zc2 zax; rw [hg, zad]; simp only [zav.asCells]; rcases hlo with rfl | ⟨x, rfl, hx⟩
    all_goals simp_all
   rw [show Nat.ble k cap = true from zg3.2 (by omega), hf]
   simp only [Bool.and_self, zar]; congr 1
   cases hq : Nat.beq cap 0 <;> simp
  ·simp_all
  ·grind
  ·grind
  ·refine RDs.mk (by simp_all) fun i d cs h1 h2 => ?_
   rw [ydf] at h1 h2; split at h1
   ·rename_i e
    rw [yab e] at h2; obtain ⟨cs', h3, h4⟩ := hd.get h1
    simp_all
   grind
end
mutual
def D.zs : D -> List zab
 | .int k _ => [.int k 0]
 | .bool _ => [.bool false]
 | .str _ => [.str []]
 | .sl _ _ => [.nilslice]
 | .st l => D.zss l
def D.zss : List D -> List zab
 | [] => []
 | d :: l => d.zs ++ D.zss l
end
theorem z0e : ∀ (z z' l l' : List zab), zob z l = true -> zob z' l' = true -> zob (z ++ z') (l ++ l') = true
 | [], _, [], _, _, h => h
 | a :: z, z', b :: l, l', h, k => by
  unfold zob at h; rw [ybb] at h; show (zzh0 a b && zob (z ++ z') (l ++ l')) = true
  rw [h.1, z0e z z' l l' h.2 k]; rfl
 | [], _, _ :: _, _, h, _ => by cases h
 | _ :: _, _, [], _, h, _ => by cases h
mutual
theorem zzdi {t : Tr zav} : ∀ (d : D) (cs : List zab), RD t d cs -> zob d.zs cs = true
 | .int k n, cs, h => by
  rw [RD] at h; subst h; show (zzh0 (.int k 0) (.int k n) && true) = true
  grind [zzh0, zab.asIntK, zf2]
 | .bool _, cs, h => by rw [RD] at h; subst h; rfl
 | .str _, cs, h => by rw [RD] at h; subst h; rfl
 | .sl sz l, cs, h => by
  rw [z79] at h; obtain ⟨v, rfl, h⟩ := h
  show (zzh0 .nilslice v && true) = true
  rw [zsl h]; rfl
 | .st l, cs, h => by
  rw [zql] at h; obtain ⟨cl, rfl, h⟩ := h
  show zob (D.zss l) cl.flatten = true
  exact z5j l cl h
theorem z5j {t : Tr zav} : ∀ (l : List D) (cl : List (List zab)), RDs t l cl -> zob (D.zss l) cl.flatten = true
 | [], cl, h => by rw [RDs] at h; subst h; rfl
 | d :: l, cl, h => by
  rw [RDs] at h; obtain ⟨c, r, rfl, h1, h2⟩ := h
  show zob (d.zs ++ D.zss l) (c :: r).flatten = true
  rw [yas]; exact z0e _ _ _ _ (zzdi d c h1) (z5j l r h2)
end
theorem zak {k : IntKind} {n : Int} : intK k (.int k n) = some n := by unfold intK; simp only [zab.asIntK, zad]; rw [zf2.2 rfl]; rfl
theorem ze0 {b : Bool} : (zab.bool b).asBool = some b := rfl
theorem zqr {d : Nat} {k : IntKind} {n : Int} : same d (.int k n) (.int k n) = true := by
 cases d <;> simp [same, zf2, zke]
theorem zzal {d : Nat} {b : Bool} : same d (.bool b) (.bool b) = true := by cases d <;> simp [same, zoq]
theorem zan {n : Int} (h1 : -9223372036854775808 <= n) (h2 : n < 9223372036854775808) : zal .i64 n = n := by
 grind [zdu, IntKind.wrap, IntKind.bits, IntKind.signed]
theorem ztc {t : Tr zav} {d : D} {cs zs : List zab} (h : RD t d cs) (hz : d.zs = zs) : zt6 zs (.agg cs) = some (cellsOf cs) := by
 unfold zt6; simp only [zab.asAgg, zad]; rw [<- hz, zzdi d cs h]; rfl
theorem zg4 {zs l : List zab} (h : zob zs l = true) : zt6 zs (.agg l) = some (cellsOf l) := by
 simp_all [zt6, zab.asAgg]
end Go.Am
