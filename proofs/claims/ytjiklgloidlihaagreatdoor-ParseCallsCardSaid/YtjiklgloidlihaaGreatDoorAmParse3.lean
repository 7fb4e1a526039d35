/- The abstract machine over the parse seat: what the library's functions are worth; the machine's ground. -/
import Derived.Test.YtjiklgloidlihaaGreatDoorAmParse2
set_option maxRecDepth 100000
namespace Go.Am
open Go Go.RowKit Go.Proofs
theorem str_list {s : ByteArray} {l : List Nat} (h : bytesN s = l) : s.data.toList.map UInt8.toNat = l := h
theorem enters {f : Nat} {fn : Func} (hf : Tryz.funcs[f]? = some fn) (hb : fn.body.isSome = true) {args : Array Value} {w : World} : (callFunc f args).run Tryz.prog w = .ok (.enter f args) w :=
  run_callFunc (C := ctx0 0) fns_ok (show fns.get f = some fn by unfold fns; rw [Tr.get_ofList]; simpa using hf) hb
section
variable {N : Nat} {μ : Mu} {H : AHeap} {w : World} {args : List AVal} {args' : Array Value} {v : AVal}
theorem two_args {a b : AVal} (h : LRel μ [a, b] args'.toList) : ∃ x y, args' = #[x, y] ∧ VRel μ a x ∧ VRel μ b y := by
  rw [LRel] at h
  obtain ⟨x, r, h1, h2, h3⟩ := h
  rw [LRel] at h3
  obtain ⟨y, r', h4, h5, h6⟩ := h3
  rw [LRel] at h6
  subst h4 h6
  exact ⟨x, y, by apply Array.toList_inj.1; simpa using h1, h2, h5⟩
theorem prim_index (hv : pIndexByte args H = some v) (hl : LRel μ args args'.toList) :
    (callFunc 144 args').run Tryz.prog w = .ok (.enter 144 args') w ∧ Calls Tryz.prog 144 args' w fun e w' => ∃ v', e = .returned v' ∧ VRel μ v v' ∧ Below w.heap.size w w' := by
  refine ⟨enters (fn := Tryz.f144) Tryz.func144 (by kernel_rfl), ?_⟩
  unfold pIndexByte at hv
  split at hv
  case h_2 => cases hv
  rename_i s c
  rw [guardO_some, blts] at hv
  obtain ⟨hc, hv⟩ := hv
  cases hv
  obtain ⟨x, y, rfl, hx, hy⟩ := two_args hl
  simp only [VRel] at hx hy
  obtain ⟨s', rfl, hs⟩ := hx
  subst hy
  refine (Tryz.strings_IndexByte s' (Int.ofNat c) w).mono fun e w' ⟨he, hw⟩ => ?_
  subst hw
  refine ⟨_, he, ?_, Below.refl _ _⟩
  have hcc : (c.toUInt8).toNat = c := by simp [Nat.toUInt8, UInt8.toNat_ofNat']; omega
  have := index_eq c.toUInt8 s'.data.toList
  rw [hcc, str_list hs] at this
  rw [VRel]
  show Value.int .i64 (Lib.indexByte s'.data.toList c.toUInt8) = _
  rw [← this]
  cases idxByte c s <;> rfl
theorem prim_count (hv : pCount args H = some v) (hl : LRel μ args args'.toList) :
    (callFunc 71 args').run Tryz.prog w = .ok (.enter 71 args') w ∧ Calls Tryz.prog 71 args' w fun e w' => ∃ v', e = .returned v' ∧ VRel μ v v' ∧ Below w.heap.size w w' := by
  refine ⟨enters (fn := Tryz.f71) Tryz.func71 (by kernel_rfl), ?_⟩
  unfold pCount at hv
  split at hv
  case h_2 => cases hv
  rename_i s c
  cases hv
  obtain ⟨x, y, rfl, hx, hy⟩ := two_args hl
  rw [VRel] at hx hy
  obtain ⟨s', rfl, hs⟩ := hx
  obtain ⟨c', rfl, hc⟩ := hy
  obtain ⟨b, hb, hbc⟩ : ∃ b : UInt8, c' = ⟨#[b]⟩ ∧ b.toNat = c := by
    have h1 := str_list hc
    obtain ⟨⟨l⟩⟩ := c'
    match l, h1 with
    | [b], h1 => exact ⟨b, rfl, by simpa using h1⟩
  subst hb
  refine (Tryz.strings_Count_one s' b w).mono fun e w' ⟨he, hw⟩ => ?_
  subst hw
  refine ⟨_, he, ?_, Below.refl _ _⟩
  have := count_eq b s'.data.toList
  rw [hbc, str_list hs] at this
  rw [VRel, ← this]
  rfl
theorem prim_contains (hI : LaidW w) (hv : pContains args H = some v) (hl : LRel μ args args'.toList) :
    (callFunc 91 args').run Tryz.prog w = .ok (.enter 91 args') w ∧ Calls Tryz.prog 91 args' w fun e w' => ∃ v', e = .returned v' ∧ VRel μ v v' ∧ Below w.heap.size w w' := by
  refine ⟨enters (fn := Tryz.f91) Tryz.func91 (by kernel_rfl), ?_⟩
  unfold pContains at hv
  split at hv
  case h_2 => cases hv
  rename_i s c
  rw [guardO_some, blts, llen_eq] at hv
  obtain ⟨hlen, hv⟩ := hv
  cases hv
  obtain ⟨x, y, rfl, hx, hy⟩ := two_args hl
  rw [VRel] at hx hy
  obtain ⟨s', rfl, hs⟩ := hx
  obtain ⟨c', rfl, hc⟩ := hy
  obtain ⟨m, hm⟩ := hI.most
  have hsz : s'.size < 4294967281 := by
    have := congrArg List.length (str_list hs)
    simp at this
    omega
  refine (Tryz.strings_Contains s' c' m w hsz hm).mono fun e w' ⟨he, hw⟩ => ?_
  subst hw
  refine ⟨_, he, ?_, Below.refl _ _⟩
  have := contains_eq c'.data.toList s'.data.toList
  rw [str_list hs, str_list hc] at this
  rw [VRel, this]
theorem prim_cut (hI : LaidW w) (hv : pCut args H = some v) (hl : LRel μ args args'.toList) :
    (callFunc 135 args').run Tryz.prog w = .ok (.enter 135 args') w ∧ Calls Tryz.prog 135 args' w fun e w' => ∃ v', e = .returned v' ∧ VRel μ v v' ∧ Below w.heap.size w w' := by
  refine ⟨enters (fn := Tryz.f135) Tryz.func135 (by kernel_rfl), ?_⟩
  unfold pCut at hv
  split at hv
  case h_2 => cases hv
  rename_i s c
  rw [guardO_some, blts, llen_eq] at hv
  obtain ⟨hlen, hv⟩ := hv
  obtain ⟨x, y, rfl, hx, hy⟩ := two_args hl
  rw [VRel] at hx hy
  obtain ⟨s', rfl, hs⟩ := hx
  obtain ⟨c', rfl, hc⟩ := hy
  obtain ⟨m, hm⟩ := hI.most
  have hsz : s'.size < 4294967281 := by
    have := congrArg List.length (str_list hs)
    simp at this
    omega
  refine (Tryz.strings_Cut s' c' m w hsz hm).mono fun e w' ⟨he, n, hw⟩ => ?_
  subst hw
  have hb : Below w.heap.size w (w.drewN n) := ⟨rfl, rfl, rfl, Nat.le_refl _, fun _ _ => rfl⟩
  refine ⟨_, he, ?_, hb⟩
  have hcut := cut_eq c'.data.toList s'.data.toList
  rw [str_list hs, str_list hc] at hcut
  cases hx : cutL c s with
  | none =>
    rw [hx] at hcut hv
    cases hv
    have hcut : Lib.index s'.data.toList c'.data.toList = -1 := hcut
    have e : Lib.cut s'.data.toList c'.data.toList = (s'.data.toList, [], false) := by unfold Lib.cut; rw [hcut]; rfl
    rw [e, VRel]
    exact ⟨_, rfl, .cons (by rw [VRel]; exact ⟨_, rfl, by rw [← hs]⟩) (.cons (by rw [VRel]; exact ⟨_, rfl, by simp [bytesN]⟩) (.single (by rw [VRel])))⟩
  | some p =>
    rw [hx] at hcut hv
    cases hv
    obtain ⟨a, b, rfl, h1, h2, h3⟩ := hcut
    have e : Lib.cut s'.data.toList c'.data.toList = (a, b, true) := by unfold Lib.cut; rw [if_pos h1, h2, h3]
    rw [e, VRel]
    exact ⟨_, rfl, .cons (by rw [VRel]; exact ⟨_, rfl, by simp [bytesN]⟩) (.cons (by rw [VRel]; exact ⟨_, rfl, by simp [bytesN]⟩) (.single (by rw [VRel])))⟩
end
theorem prims0_ok (root N : Nat) : PrimsOk Tryz.prog (ctx0 root) N LaidW := by
  intro f g hg args H v hv μ w args' _ hI hl
  have hg : prims0.get f = some g := hg
  unfold prims0 at hg
  rw [Tr.get_set, Tr.get_set, Tr.get_set, Tr.get_set] at hg
  split at hg
  · rename_i e; subst e; cases hg; exact .inr (prim_cut hI hv hl)
  · split at hg
    · rename_i e; subst e; cases hg; exact .inr (prim_contains hI hv hl)
    · split at hg
      · rename_i e; subst e; cases hg; exact .inr (prim_count hv hl)
      · split at hg
        · rename_i e; subst e; cases hg; exact .inr (prim_index hv hl)
        · rw [Tr.get_leaf] at hg; cases hg
theorem sim0 (root N : Nat) (hN : 4 ≤ N) : Sim Tryz.prog (ctx0 root) N LaidW :=
  ⟨tys_ok, fns_ok, prims0_ok root N, Nat.le_refl _, by kernel_rfl, fun _ _ hb h => h.below hN hb⟩
theorem fin_one {o : AOut} (h : fin o = 1) : ∃ H, o = .done (.bool true) H := by
  cases o with
  | next s => cases h
  | fail n => simp only [fin] at h; omega
  | done v H =>
    cases hv : v.asBool with
    | none => simp only [fin, hv] at h; omega
    | some b => cases b with
      | false => simp only [fin, hv] at h; omega
      | true => exact ⟨H, by rw [asBool_some.1 hv]⟩
/-- a closed run that ends in true -/
theorem true_of_run {C : Ctx} {f n : Nat} {args : List AVal} {args' : Array Value} {w : World} (hw : LaidW w) (hS : Sim Tryz.prog C w.heap.size LaidW) (hroot : C.root = f) (hl : LRel mu0 args args'.toList)
    (h : fin (runA C n (startO C f args H0)) = 1) : Calls Tryz.prog f args' w fun e w' => e = .returned (.bool true) ∧ Below w.heap.size w w' := by
  obtain ⟨H', hr⟩ := fin_one h
  unfold startO at hr
  have stuck : ∀ (n k : Nat), runA C n (.fail k) = .fail k := by
    intro n
    induction n with
    | zero => intro k; rfl
    | succ n ih =>
      intro k
      show runA C n (runA C n (.fail k)) = _
      rw [ih, ih]
  cases he : enterA C f args false with
  | none =>
    rw [he] at hr
    rw [stuck] at hr
    cases hr
  | some g =>
    rw [he] at hr
    refine (calls_of_run hS hw hroot (hrel0 hw) hl he hr).mono fun e w' ⟨v', μ', h1, _, h3, _, h5⟩ => ?_
    rw [VRel] at h3
    exact ⟨by rw [h1, h3], h5⟩
end Go.Am
