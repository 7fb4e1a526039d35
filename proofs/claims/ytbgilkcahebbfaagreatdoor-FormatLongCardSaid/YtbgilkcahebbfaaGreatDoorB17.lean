/- Seat 13: strconv.FormatUint at base 10. -/
import Derived.KernelRfl
import Derived.Lib.AppendIntMem
import Derived.ProofKit
import Derived.Test.YtbgilkcahebbfaaGreatDoorB10
import Derived.Test.YtbgilkcahebbfaaGreatDoorB11
import Derived.Test.YtbgilkcahebbfaaGreatDoorB12
import Derived.Test.YtbgilkcahebbfaaGreatDoorB13
import Derived.Test.YtbgilkcahebbfaaGreatDoorB14
import Derived.Test.YtbgilkcahebbfaaGreatDoorB15
import Derived.Test.YtbgilkcahebbfaaGreatDoorB16
set_option linter.all false
noncomputable section
namespace Go.Proofs
open Go Go.Shelf Go.RowKit Go.Sort Go.Lib
set_option maxHeartbeats 1000000 in
set_option maxRecDepth 100000 in
theorem zxk (u : Nat) (hi : u < 100) (w : World) :
  Calls Tryz.prog 176 #[.int .u64 u, .int .i64 10] w fun e w' => e = .returned (.string ⟨(Lib.itoa u).toArray⟩) /\ ∃ k os, w' = Sort.grow (w.drewN k) os := by
 have hi' : (u : Int) < 100 := by omega
 have hw : IntKind.i64.wrap (u : Int) = u := by rw [IntKind.wrap_i64]; omega
 go_enter Tryz.func176, Tryz.ntmps176
 go_wp2_with (go_at_fn 178)
 refine (Tryz.internal_strconv_small u hi _).mono ?_
 rintro e w' ⟨rfl, rfl⟩
 go_wp2
 go_ret
 refine ⟨?_, 0, #[], by simp [World.drewN_zero, Sort.grow]⟩
 rw [Lib.itoa_nonneg]; rfl
set_option maxHeartbeats 4000000 in
set_option maxRecDepth 100000 in
theorem z48 (u : Nat) (hu : 100 <= u) (hu64 : u < 18446744073709551616) (w : World) (htab : Lib.TabIs Tryz.prog w "internal/strconv.uint64pow10" .u64 Lib.pow10Tab) :
  Calls Tryz.prog 176 #[.int .u64 u, .int .i64 10] w fun e w' => e = .returned (.string ⟨(Lib.itoa u).toArray⟩) /\ ∃ k os, w' = Sort.grow (w.drewN k) os := by
 have hu' : (100 : Int) <= (u : Int) := by omega
 have hu1 : 1 <= u := by omega
 have hnd20 : Lib.nDigits u <= 20 := by have := Lib.numDigits_eq u hu1 hu64; split at this <;> omega
 have hal : Tryz.prog.arrayLen 221 = 24 := by kernel_rfl
 have hel : Tryz.prog.elem 221 = 5 := by kernel_rfl
 have hsl : ∀ W, (Instr.sliceAt 221 (.pointer (some ⟨w.heap.size, 0, none⟩)) none (some (.int .i64 (Lib.nDigits u : Int))) none).run Tryz.prog W = .ok (.slice (some ⟨w.heap.size, 0, none⟩) (Lib.nDigits u) 24) W := fun W => by
  rw [run_sliceAt_array_h W 221 ⟨w.heap.size, 0, none⟩ (by rw [hal, hel]; exact Tryz.underlying221) .i64 (Lib.nDigits u : Int) (by omega) (by rw [hal]; omega)]
  rw [hal, hel, Tryz.sizeOf5]; simp [slicedAt, Addr.add]
 have hH0 := Lib.holds_zero0 w 221 (Lib.nDigits u) (by omega)
 have hfmt := Tryz.internal_strconv_formatBase10 w.heap.size 0 24 u (Array.replicate (Lib.nDigits u) 0) (w.alloc (.cells Lib.zeros24 221)) hH0 (by rw [Array.size_replicate]; exact Lib.lt_pow_nDigits u) hu64 (by rw [Array.size_replicate]; omega)
 rw [Array.size_replicate] at hfmt; have HH0 := Lib.hid hH0
 clear hH0 hal hel
 go_enter Tryz.func176, Tryz.ntmps176
 go_wp2_with (go_at_fn 179)
 refine (Tryz.internal_strconv_numDigits u hu1 hu64 _ (Lib.tabIs_alloc htab _)).mono ?_
 rintro e w' ⟨rfl, rfl⟩
 go_wp2_with (go_at_fn 180)
 refine hfmt.mono ?_
 rintro e w' ⟨rfl, k, v', dk, rfl, hF⟩
 have hcv : (convert 32 9 (.slice (some ⟨w.heap.size, 0, none⟩) (Lib.nDigits u) 24)).run Tryz.prog ((putRow (fun (b : UInt8) => Value.int .u8 (b.toNat : Int)) (w.alloc (.cells Lib.zeros24 221)) w.heap.size 0 dk).drewN k) = .ok (.string ⟨(Lib.decDigits u).toArray⟩) ((putRow (fun (b : UInt8) => Value.int .u8 (b.toNat : Int)) (w.alloc (.cells Lib.zeros24 221)) w.heap.size 0 dk).drewN k) := by
  have h := run_convert_bytes_back (P := Tryz.prog) ((putRow (fun (b : UInt8) => Value.int .u8 (b.toNat : Int)) (w.alloc (.cells Lib.zeros24 221)) w.heap.size 0 dk).drewN k) 32 9 5 ⟨w.heap.size, 0, none⟩ 24 (Lib.decDigits u) Tryz.underlying32 Tryz.underlying5 Tryz.underlying9 (fun j hj => by
   rw [Lib.row_is_numeral hF j hj, Lib.add_plain, World.cell?_drewN]; exact cell?_putRow (fun (b : UInt8) => Value.int .u8 (b.toNat : Int)) _ w.heap.size 0 _ dk HH0.out (by rw [hF.size, Array.size_replicate]) j (by rw [hF.size]; rw [Lib.decDigits_length] at hj; exact hj))
  rw [Lib.decDigits_length] at h; exact h
 go_wp2
 go_ret
 obtain ⟨os, eo⟩ := Lib.fin_at w (.cells Lib.zeros24 221) dk k 0
 refine ⟨?_, k, os, eo⟩
 rw [Lib.itoa_nonneg]; rfl
set_option maxHeartbeats 1000000 in
set_option maxRecDepth 100000 in
theorem uint13 (u : Nat) (hu64 : u < 18446744073709551616) (w : World) (htab : Lib.TabIs Tryz.prog w "internal/strconv.uint64pow10" .u64 Lib.pow10Tab) :
  Calls Tryz.prog 154 #[.int .u64 u, .int .i64 10] w fun e w' => e = .returned (.string ⟨(Lib.itoa u).toArray⟩) /\ ∃ k os, w' = Sort.grow (w.drewN k) os := by
 have key : Calls Tryz.prog 176 #[.int .u64 u, .int .i64 10] w fun e w' => e = .returned (.string ⟨(Lib.itoa u).toArray⟩) /\ ∃ k os, w' = Sort.grow (w.drewN k) os := by
  by_cases h : u < 100
  ·exact zxk u h w
  ·exact z48 u (by omega) hu64 w htab
 go_enter Tryz.func154, Tryz.ntmps154
 go_wp2_with (go_at_fn 176)
 refine key.mono ?_
 rintro e w' ⟨rfl, k, os, rfl⟩
 go_wp2
 go_ret
 exact ⟨rfl, k, os, rfl⟩
end Go.Proofs
set_option maxRecDepth 100000
namespace Go.Am
open Go Go.RowKit Go.Proofs
theorem z79 : zzkw (fun t ty => match tyOf Tryz.prog t with | some u => eqTy u ty | none => false) tys (fun n => n) = true := by kernel_rfl
theorem z78 {C : Ctx} (hC : C.tys = tys) : zc6 Tryz.prog C := by
 intro t ty h; rw [hC] at h; have := zzkv tys _ z79 t ty h
 cases hu : tyOf Tryz.prog t with
 | none => rw [hu] at this; cases this
 | some u => rw [hu] at this; rw [zzke this]
theorem z1d : (Tryz.funcs.toList.all fun fn => !(fn.name == "runtime.NumGoroutine")) = true := by kernel_rfl
theorem z4e {C : Ctx} (hC : C.fns = fns) : zzv Tryz.prog C := by
 intro f fn h; rw [hC] at h; unfold fns at h; rw [Tr.get_ofList] at h; have h2 : Tryz.prog.funcs[f]? = some fn := by
  show Tryz.funcs[f]? = some fn
  simpa using h
 refine ⟨h2, ?_⟩
 have := ybc.1 z1d fn (ybw h)
 simpa using this
def u64s (l : List Int) : List Value := l.map fun n => .int .u64 n
theorem z2w {μ : Mu} : ∀ l : List Int, zbk μ (zzfg .u64 l) (u64s l)
 | [] => .nil
 | b :: l => .cons (by rw [zan]) (z2w l)
structure zcs (w : World) : Prop where
 kinds : ∃ t, w.heap[0]? = some (.cells (zziy zti).toArray t (0, 0))
 modes : ∃ t, w.heap[1]? = some (.cells (zziy ztg).toArray t (0, 0))
 lens : ∃ t, w.heap[2]? = some (.cells (zzfe z1i).toArray t (0, 0))
 most : ∃ m, w.cell? ⟨3, 0, none⟩ = some (.int .i64 m)
 pow : ∃ t, w.heap[5]? = some (.cells (u64s zzdi).toArray t (0, 0))
theorem zcs.size {w : World} (h : zcs w) : 6 <= w.heap.size := by
 obtain ⟨t, h⟩ := h.pow
 have := (yaf.1 h).1
 omega
theorem zcs.below {w w' : World} {N : Nat} (hN : 6 <= N) (h : zcs w) (hb : Below N w w') : zcs w' := by
 refine ⟨?_, ?_, ?_, ?_, ?_⟩
 ·obtain ⟨t, h⟩ := h.kinds; exact ⟨t, by rw [hb.block 0 (by omega)]; exact h⟩
 ·obtain ⟨t, h⟩ := h.modes; exact ⟨t, by rw [hb.block 1 (by omega)]; exact h⟩
 ·obtain ⟨t, h⟩ := h.lens; exact ⟨t, by rw [hb.block 2 (by omega)]; exact h⟩
 ·obtain ⟨m, h⟩ := h.most; exact ⟨m, by rw [hb.cell (p := ⟨3, 0, none⟩) (by show 3 < N; omega)]; exact h⟩
 ·obtain ⟨t, h⟩ := h.pow; exact ⟨t, by rw [hb.block 5 (by omega)]; exact h⟩
theorem zcs.tab {w : World} (h : zcs w) : Lib.TabIs Tryz.prog w "internal/strconv.uint64pow10" .u64 Lib.pow10Tab := by
 obtain ⟨t, h⟩ := h.pow
 have hg : Tryz.prog.globalNamed "internal/strconv.uint64pow10" = some 5 := by kernel_rfl
 unfold Lib.TabIs World.var?
 rw [hg]; simp only [Option.bind_some, h]; rfl
theorem hrel13 {w : World} (h : zcs w) : zbf 256 w.heap.size mu0 H13 w := by
 have hget : ∀ a x, H13.t.get a = some x -> (a = 0 /\ x = .cells (Tr.ofList (zzg8 zti)) (zbw (zzg8 zti)) none) \/ (a = 1 /\ x = .cells (Tr.ofList (zzg8 ztg)) (zbw (zzg8 ztg)) none) \/ (a = 2 /\ x = .cells (Tr.ofList (zzfg .i64 z1i)) (zbw (zzfg .i64 z1i)) none) \/ (a = 5 /\ x = .cells (Tr.ofList (zzfg .u64 zzdi)) (zbw (zzfg .u64 zzdi)) none) := by
  intro a x hx; have hx : (glob 0 (zzg8 zti) (glob 1 (zzg8 ztg) (glob 2 (zzfg .i64 z1i) (glob 5 (zzfg .u64 zzdi) .leaf)))).get a = some x := hx
  unfold glob at hx; rw [Tr.get_set, Tr.get_set, Tr.get_set, Tr.get_set] at hx; split at hx
  ·rename_i e; exact .inl ⟨e, (ybj hx).symm⟩
  ·split at hx
   ·rename_i e; exact .inr (.inl ⟨e, (ybj hx).symm⟩)
   ·split at hx
    ·rename_i e; exact .inr (.inr (.inl ⟨e, (ybj hx).symm⟩))
    ·split at hx
     ·rename_i e; exact .inr (.inr (.inr ⟨e, (ybj hx).symm⟩))
     ·rw [Tr.get_leaf] at hx; cases hx
 have hsz := h.size
 refine ⟨yal _, fun g hg => by simp [mu0, hg], fun a x i _ hx hi => ?_, yal _, yal _, fun a ha => ?_, fun a x i hx hi => ?_, fun a i ha hi => ?_, fun a b x y i j hx _ _ _ ha _ _ => ?_, fun a x t ha => by cases ha⟩
 ·rcases hget a x hx with ⟨rfl, rfl⟩ | ⟨rfl, rfl⟩ | ⟨rfl, rfl⟩ | ⟨rfl, rfl⟩ <;> cases hi <;> exact ⟨Nat.lt_of_lt_of_le (by decide) hsz, rfl, rfl⟩
 ·have ha : 256 <= a := ha
  refine ⟨by simp [mu0]; omega, ?_⟩
  cases hx : H13.t.get a with
  | none => rfl
  | some x => rcases hget a x hx with ⟨rfl, _⟩ | ⟨rfl, _⟩ | ⟨rfl, _⟩ | ⟨rfl, _⟩ <;> omega
 ·rcases hget a x hx with ⟨rfl, rfl⟩ | ⟨rfl, rfl⟩ | ⟨rfl, rfl⟩ | ⟨rfl, rfl⟩
  ·obtain ⟨t, h⟩ := h.kinds; cases hi; exact ⟨_, h, znc (zvh zti) t⟩
  ·obtain ⟨t, h⟩ := h.modes; cases hi; exact ⟨_, h, znc (zvh ztg) t⟩
  ·obtain ⟨t, h⟩ := h.lens; cases hi; exact ⟨_, h, znc (z38 z1i) t⟩
  ·obtain ⟨t, h⟩ := h.pow; cases hi; exact ⟨_, h, znc (z2w zzdi) t⟩
 ·simp [mu0] at hi; omega
 ·rcases hget a x hx with ⟨rfl, _⟩ | ⟨rfl, _⟩ | ⟨rfl, _⟩ | ⟨rfl, _⟩ <;> omega
theorem zpx {s : ByteArray} {l : List Nat} (h : zb0 s = l) : s.data.toList.map UInt8.toNat = l := h
theorem zpa {f : Nat} {fn : Func} (hf : Tryz.funcs[f]? = some fn) (hb : fn.body.isSome = true) {args : Array Value} {w : World} : (callFunc f args).run Tryz.prog w = .ok (.enter f args) w :=
 zhs (C := C13w) (z4e rfl) (show fns.get f = some fn by unfold fns; rw [Tr.get_ofList]; simpa using hf) hb
section
variable {B N : Nat} {μ : Mu} {H : zaf} {w : World} {args : List zab} {args' : Array Value} {v : zab}
theorem zpv {a b : zab} (h : zbk μ [a, b] args'.toList) : ∃ x y, args' = #[x, y] /\ zan μ a x /\ zan μ b y := by
 rw [zbk] at h; obtain ⟨x, r, h1, h2, h3⟩ := h
 rw [zbk] at h3; obtain ⟨y, r', h4, h5, h6⟩ := h3
 rw [zbk] at h6; subst h4 h6
 exact ⟨x, y, by apply Array.toList_inj.1; simpa using h1, h2, h5⟩
theorem z5q (hv : zn5 args H = some v) (hl : zbk μ args args'.toList) :
  (callFunc 188 args').run Tryz.prog w = .ok (.enter 188 args') w /\ Calls Tryz.prog 188 args' w fun e w' => ∃ v', e = .returned v' /\ zan μ v v' /\ Below w.heap.size w w' := by
 refine ⟨zpa (fn := Tryz.f188) Tryz.func188 (by kernel_rfl), ?_⟩
 unfold zn5 at hv; split at hv
 case h_2 => cases hv
 rename_i s c; rw [zae, zc8] at hv; obtain ⟨hc, hv⟩ := hv
 cases hv; obtain ⟨x, y, rfl, hx, hy⟩ := zpv hl
 simp only [zan] at hx hy; obtain ⟨s', rfl, hs⟩ := hx
 subst hy; refine (Tryz.stringslite_IndexByte s' (Int.ofNat c) w).mono fun e w' ⟨he, hw⟩ => ?_
 subst hw; refine ⟨_, he, ?_, Below.refl _ _⟩
 have hcc : (c.toUInt8).toNat = c := by simp [Nat.toUInt8, UInt8.toNat_ofNat']; omega
 have := z39 c.toUInt8 s'.data.toList
 rw [hcc, zpx hs] at this; rw [zan]; show Value.int .i64 (Lib.indexByte s'.data.toList c.toUInt8) = _
 rw [<- this]; done
theorem zml (hI : zcs w) (hv : zim args H = some v) (hl : zbk μ args args'.toList) :
  (callFunc 113 args').run Tryz.prog w = .ok (.enter 113 args') w /\ Calls Tryz.prog 113 args' w fun e w' => ∃ v', e = .returned v' /\ zan μ v v' /\ Below w.heap.size w w' := by
 refine ⟨zpa (fn := Tryz.f113) Tryz.func113 (by kernel_rfl), ?_⟩
 unfold zim at hv; split at hv
 case h_2 => cases hv
 rename_i s c; rw [zae, zc8, za1] at hv; obtain ⟨hlen, hv⟩ := hv
 cases hv; obtain ⟨x, y, rfl, hx, hy⟩ := zpv hl
 rw [zan] at hx hy; obtain ⟨s', rfl, hs⟩ := hx
 obtain ⟨c', rfl, hc⟩ := hy
 obtain ⟨m, hm⟩ := hI.most
 have hsz : s'.size < 4294967281 := by
  have := congrArg List.length (zpx hs)
  simp at this; omega
 refine (Tryz.strings_Contains s' c' m w hsz hm).mono fun e w' ⟨he, hw⟩ => ?_
 subst hw; refine ⟨_, he, ?_, Below.refl _ _⟩
 have := zsj c'.data.toList s'.data.toList
 rw [zpx hs, zpx hc] at this; rw [zan, this]
theorem zu3 (k : Nat) (os : Array Obj) : Below w.heap.size w (Sort.grow (w.drewN k) os) := by
 refine ⟨rfl, rfl, rfl, ?_, fun j hj => ?_⟩
 ·simp [Sort.grow, World.drewN]
 ·show (w.heap ++ os)[j]? = w.heap[j]?
  rw [Array.getElem?_append_left hj]
theorem zx7 (hI : zcs w) (hv : z5v args H = some v) (hl : zbk μ args args'.toList) :
  (callFunc 98 args').run Tryz.prog w = .ok (.enter 98 args') w /\ Calls Tryz.prog 98 args' w fun e w' => ∃ v', e = .returned v' /\ zan μ v v' /\ Below w.heap.size w w' := by
 refine ⟨zpa (fn := Tryz.f98) Tryz.func98 (by kernel_rfl), ?_⟩
 unfold z5v at hv; split at hv
 case h_2 => cases hv
 rename_i n; rw [zae, yac] at hv; obtain ⟨⟨h1, h2⟩, hv⟩ := hv
 cases hv; rw [zbk] at hl; obtain ⟨x, r, he, hx, hr⟩ := hl
 rw [zbk] at hr; rw [zan] at hx; subst hr hx
 have : args' = #[.int .i64 n] := by apply Array.toList_inj.1; simpa using he
 subst this; have g1 : -9223372036854775808 <= n := (zwi _ _).1 h1
 have g2 : n < 9223372036854775808 := (zoe _ _).1 h2
 refine (Tryz.strconv_Itoa n g1 (by omega) w hI.tab).mono fun e w' ⟨he, k, os, hw⟩ => ?_
 subst hw; exact ⟨_, he, by rw [zan]; exact ⟨_, rfl, rfl⟩, zu3 k os⟩
theorem zx6 (hI : zcs w) (hv : z9y args H = some v) (hl : zbk μ args args'.toList) :
  (callFunc 154 args').run Tryz.prog w = .ok (.enter 154 args') w /\ Calls Tryz.prog 154 args' w fun e w' => ∃ v', e = .returned v' /\ zan μ v v' /\ Below w.heap.size w w' := by
 refine ⟨zpa (fn := Tryz.f154) Tryz.func154 (by kernel_rfl), ?_⟩
 unfold z9y at hv; split at hv
 case h_2 => cases hv
 rename_i n b; rw [zae, yac, yac] at hv; obtain ⟨⟨⟨h1, h2⟩, h3⟩, hv⟩ := hv
 cases hv; obtain ⟨x, y, rfl, hx, hy⟩ := zpv hl
 rw [zan] at hx hy; subst hx hy
 have g1 : 0 <= n := (zwi _ _).1 h1
 have g2 : n < 18446744073709551616 := (zoe _ _).1 h2
 obtain rfl : b = 10 := (zie _ _).1 h3
 obtain ⟨u, rfl⟩ : ∃ u : Nat, n = u := ⟨n.toNat, by omega⟩
 refine (uint13 u (by omega) w hI.tab).mono fun e w' ⟨he, k, os, hw⟩ => ?_
 subst hw; exact ⟨_, he, by rw [zan]; exact ⟨_, rfl, rfl⟩, zu3 k os⟩
end
section
variable {B N : Nat} {μ : Mu} {H H' : zaf} {w : World} {args : List zab} {args' : Array Value} {v : zab}
theorem zuf {base : Nat} (hbase : B <= base) (hH : zbf B N μ H w) (hv : zre base zn9 args H = some (v, H')) (hl : zbk μ args args'.toList) :
  (callFunc 46 args').run Tryz.prog w = .ok (.enter 46 args') w /\ Calls Tryz.prog 46 args' w fun e w' => ∃ v' μ', e = .returned v' /\ μ.le μ' /\ zbf B N μ' H' w' /\ Below N w w' /\ zan μ' v v' :=
 z9z hbase (fun p hp b n w h1 h2 h3 h4 => by
  unfold zn9 at hp; rcases yat.1 hp with rfl | hp
  ·exact zww b n w h1 h2 (show 2 < n from h3) h4
  ·obtain rfl : p = (77, 2) := by simpa using hp
   exact zsl b n w h1 h2 (show 1 < n from h3) h4) (fun b w h => zzc b w h) (fun w a => zpa (fn := Tryz.f46) Tryz.func46 (by kernel_rfl)) hH hv hl
theorem zrc {base : Nat} (hbase : B <= base) (hH : zbf B N μ H w) (hv : zn4 base 5 args H = some (v, H')) (hl : zbk μ args args'.toList) :
  (callFunc 25 args').run Tryz.prog w = .ok (.enter 25 args') w /\ Calls Tryz.prog 25 args' w fun e w' => ∃ v' μ', e = .returned v' /\ μ.le μ' /\ zbf B N μ' H' w' /\ Below N w w' /\ zan μ' v v' :=
 z5u Tryz.lays169 Tryz.Builder_Extra_169 (f := 25) rfl hbase (fun w a => zpa (fn := Tryz.f25) Tryz.func25 (by kernel_rfl)) hH hv hl
end
theorem zef {α : Type} {t : Tr α} {i j : Nat} {x y : α} (h : (t.set i x).get j = some y) : (j = i /\ x = y) \/ t.get j = some y := by
 rw [Tr.get_set] at h; split at h
 ·rename_i e; exact .inl ⟨e, ybj h⟩
 ·exact .inr h
theorem zrb (f0 N : Nat) : zoq Tryz.prog (z4y f0) 256 N zcs := by
 intro f g hg args H v H' hv μ w args' hH hI hl; have hg : zp0.get f = some g := hg
 unfold zp0 at hg; rcases zef hg with ⟨rfl, rfl⟩ | hg
 ·exact zfc hv hH fun hv => z5q hv hl
 rcases zef hg with ⟨rfl, rfl⟩ | hg
 ·exact zfc hv hH fun hv => zml hI hv hl
 rcases zef hg with ⟨rfl, rfl⟩ | hg
 ·exact zfc hv hH fun hv => zx6 hI hv hl
 rcases zef hg with ⟨rfl, rfl⟩ | hg
 ·exact zfc hv hH fun hv => zx7 hI hv hl
 rcases zef hg with ⟨rfl, rfl⟩ | hg
 ·exact .inr (zrc (yal _) hH hv hl)
 rcases zef hg with ⟨rfl, rfl⟩ | hg
 ·exact .inr (zuf (yal _) hH hv hl)
 ·rw [Tr.get_leaf] at hg; cases hg
theorem sim13v (f0 N : Nat) (hN : 6 <= N) : Sim Tryz.prog (z4y f0) 256 N zcs :=
 ⟨z78 rfl, z4e rfl, zrb f0 N, yal _, by kernel_rfl, fun _ _ hb h => h.below hN hb⟩
theorem zqp {C : Ctx} {f n : Nat} {args : List zab} {args' : Array Value} {w : World} (hw : zcs w) (hS : Sim Tryz.prog C 256 w.heap.size zcs) (hroot : C.root = f) (hl : zbk mu0 args args'.toList)
  (h : fin (z5k C n (zmh C f args H13)) = 1) : Calls Tryz.prog f args' w fun e w' => e = .returned (.bool true) /\ Below w.heap.size w w' := by
 obtain ⟨H', hr⟩ := zzka h
 unfold zmh at hr; have stuck : ∀ (n k : Nat), z5k C n (.fail k) = .fail k := by
  intro n; induction n with
  | zero => intro k; rfl
  | succ n ih =>
   intro k; show z5k C n (z5k C n (.fail k)) = _
   rw [ih, ih]
 cases he : zfl C f args false with
 | none =>
  rw [he] at hr; rw [stuck] at hr
  cases hr
 | some g =>
  rw [he] at hr; refine (zze hS hw hroot (hrel13 hw) hl he hr).mono fun e w' ⟨v', μ', h1, _, h3, _, h5⟩ => ?_
  rw [zan] at h3; exact ⟨by rw [h1, h3], h5⟩
theorem zzbj : ∀ {l : List (List Nat × List Nat)} {a b : List Nat}, inW l a b = true -> (a, b) ∈ l
 | [], _, _, h => by cases h
 | p :: r, a, b, h => by
  unfold inW at h; rw [zal] at h; split at h
  ·rename_i e
   rw [yac] at e; have h1 := (zek _ _).1 e.1
   have h2 := (zek _ _).1 e.2
   rw [<- h1, <- h2]; exact .head _
  ·exact .tail _ (zzbj h)
theorem z41 : ∀ p ∈ z7r, fin (z5k (z4y 15) 16 (zmh (z4y 15) 15 [.str p.1, .str p.2] H13)) = 1 := by
 intro p hp; unfold z7r at hp; rcases yat.1 hp with rfl | hp
 ·exact zz8
 rcases yat.1 hp with rfl | hp
 ·exact zz7
 rcases yat.1 hp with rfl | hp
 ·exact zz6
 rcases yat.1 hp with rfl | hp
 ·exact zz5
 rcases yat.1 hp with rfl | hp
 ·exact zz4
 ·cases hp
theorem z02 {μ : Mu} {H : zaf} {w : World} {args : List zab} {args' : Array Value} {v : zab} (hI : zcs w) (hv : z04 args H = some v) (hl : zbk μ args args'.toList) :
  (callFunc 15 args').run Tryz.prog w = .ok (.enter 15 args') w /\ Calls Tryz.prog 15 args' w fun e w' => ∃ v', e = .returned v' /\ zan μ v v' /\ Below w.heap.size w w' := by
 refine ⟨zpa (fn := Tryz.f15) Tryz.func15 (by kernel_rfl), ?_⟩
 unfold z04 at hv; split at hv
 case h_2 => cases hv
 rename_i a b; rw [zae] at hv; obtain ⟨h1, hv⟩ := hv
 cases hv; obtain ⟨x, y, rfl, hx, hy⟩ := zpv hl
 rw [zan] at hx hy; refine (zqp hI (sim13v 15 w.heap.size hI.size) rfl (args' := #[x, y]) (.cons (by rw [zan]; exact hx) (.single (by rw [zan]; exact hy))) (z41 _ (zzbj h1))).mono fun e w' ⟨h1, h2⟩ => ?_
 exact ⟨_, h1, by rw [zan], h2⟩
theorem z01 (N : Nat) : zoq Tryz.prog C13w 256 N zcs := by
 intro f g hg args H v H' hv μ w args' hH hI hl; have hg : zv1.get f = some g := hg
 unfold zv1 at hg; rcases zef hg with ⟨rfl, rfl⟩ | hg
 ·exact zfc hv hH fun hv => z02 hI hv hl
 ·exact zrb 6 N f g hg args H v H' hv μ w args' hH hI hl
theorem sim13w (N : Nat) (hN : 6 <= N) : Sim Tryz.prog C13w 256 N zcs :=
 ⟨z78 rfl, z4e rfl, z01 N, yal _, by kernel_rfl, fun _ _ hb h => h.below hN hb⟩
theorem z2f {w : World} (hw : zcs w) : Calls Tryz.prog 6 #[] w fun e w' => e = .returned (.bool true) /\ Below w.heap.size w w' :=
 zqp hw (sim13w _ hw.size) rfl .nil zzcx
theorem z5r {μ : Mu} {H : zaf} {w : World} {args : List zab} {args' : Array Value} {v : zab} (hI : zcs w) (hv : zzej args H = some v) (hl : zbk μ args args'.toList) :
  (callFunc 6 args').run Tryz.prog w = .ok (.enter 6 args') w /\ Calls Tryz.prog 6 args' w fun e w' => ∃ v', e = .returned v' /\ zan μ v v' /\ Below w.heap.size w w' := by
 refine ⟨zpa (fn := Tryz.f6) Tryz.func6 (by kernel_rfl), ?_⟩
 unfold zzej at hv; split at hv
 case h_2 => cases hv
 cases hv; rw [zbk] at hl; have : args' = #[] := by apply Array.toList_inj.1; simpa using hl
 subst this; exact (z2f hI).mono fun e w' ⟨h1, h2⟩ => ⟨_, h1, by rw [zan], h2⟩
end Go.Am
namespace Go.Am
open Go Go.RowKit
@[simp] theorem zam {α : Type} {x : Option α} : zaj true x = x := rfl
inductive D where
 | int (k : IntKind) (n : Int)
 | bool (b : Bool)
 | str (s : List Nat)
 | sl (sz : Nat) (l : List D)
 | st (l : List D)
def At (t : Tr zak) (b off : Nat) (cs : List zab) : Prop := ∃ c n lo, t.get b = some (.cells c n lo) /\ ∀ (j : Nat) a, cs[j]? = some a -> c.get (off + j) = some a
def zk4 (t : Tr zak) (sz : Nat) (v : zab) (cl : List (List zab)) : Prop :=
 (v = .nilslice /\ cl = []) \/ ∃ b off cap, v = .slice b off cl.length cap /\ cl.length <= cap /\ (∃ c n lo, t.get b = some (.cells c n lo) /\ (lo = none \/ ∃ x, lo = some x /\ x.es = sz)) /\ ∀ (i : Nat) cs, cl[i]? = some cs -> cs.length = sz /\ At t b (off + i * sz) cs
mutual
/-- cells read as data -/
def RD (t : Tr zak) : D -> List zab -> Prop
 | .int k n, cs => cs = [.int k n]
 | .bool b, cs => cs = [.bool b]
 | .str s, cs => cs = [.str s]
 | .sl sz l, cs => ∃ a cl, cs = [a] /\ zk4 t sz a cl /\ RDs t l cl
 | .st l, cs => ∃ cl, cs = cl.flatten /\ RDs t l cl
def RDs (t : Tr zak) : List D -> List (List zab) -> Prop
 | [], cl => cl = []
 | d :: l, cl => ∃ c r, cl = c :: r /\ RD t d c /\ RDs t l r
end
def TLe (t t' : Tr zak) : Prop := ∀ b y, t.get b = some y -> t'.get b = some y
theorem TLe.refl (t : Tr zak) : TLe t t := fun _ _ h => h
theorem TLe.trans {a b c : Tr zak} (h : TLe a b) (k : TLe b c) : TLe a c := fun x y e => k x y (h x y e)
section
variable {t t' : Tr zak} {C : Ctx}
theorem At.mono (h : TLe t t') {b off : Nat} {cs : List zab} (k : At t b off cs) : At t' b off cs := by
 obtain ⟨c, n, lo, h1, h2⟩ := k; exact ⟨c, n, lo, h _ _ h1, h2⟩
theorem zk4.mono (h : TLe t t') {sz : Nat} {v : zab} {cl : List (List zab)} (k : zk4 t sz v cl) : zk4 t' sz v cl := by
 rcases k with k | ⟨b, off, cap, h1, h3, ⟨c, n, lo, h4, h5⟩, h2⟩
 ·exact .inl k
 ·exact .inr ⟨b, off, cap, h1, h3, ⟨c, n, lo, h _ _ h4, h5⟩, fun i cs hi => ⟨(h2 i cs hi).1, (h2 i cs hi).2.mono h⟩⟩
mutual
theorem RD.mono (h : TLe t t') : ∀ (d : D) (cs : List zab), RD t d cs -> RD t' d cs
 | .int _ _, _, k => k
 | .bool _, _, k => k
 | .str _, _, k => k
 | .sl _ l, _, ⟨a, cl, h1, h2, h3⟩ => ⟨a, cl, h1, h2.mono h, RDs.mono h l cl h3⟩
 | .st l, _, ⟨cl, h1, h2⟩ => ⟨cl, h1, RDs.mono h l cl h2⟩
theorem RDs.mono (h : TLe t t') : ∀ (l : List D) (cl : List (List zab)), RDs t l cl -> RDs t' l cl
 | [], _, k => k
 | d :: l, _, ⟨c, r, h1, h2, h3⟩ => ⟨c, r, h1, RD.mono h d c h2, RDs.mono h l r h3⟩
end
theorem RDs.length : ∀ {l : List D} {cl : List (List zab)}, RDs t l cl -> cl.length = l.length := by
 intro l; induction l with
 | nil => intro cl h; rw [RDs] at h; simp [h]
 | cons d l ih => intro cl h; rw [RDs] at h; obtain ⟨c, r, rfl, _, h3⟩ := h; simp [ih h3]
theorem RDs.get : ∀ {l : List D} {cl : List (List zab)} {i : Nat} {d : D}, RDs t l cl -> l[i]? = some d -> ∃ cs, cl[i]? = some cs /\ RD t d cs := by
 intro l; induction l with
 | nil => intro cl i d _ h; simp at h
 | cons e l ih =>
  intro cl i d h hi; rw [RDs] at h; obtain ⟨c, r, rfl, h2, h3⟩ := h
  cases i with
  | zero => simp at hi; subst hi; exact ⟨c, by simp, h2⟩
  | succ i => simp at hi; obtain ⟨cs, h4, h5⟩ := ih h3 hi; exact ⟨cs, by simpa using h4, h5⟩
theorem RDs.mk : ∀ {l : List D} {cl : List (List zab)}, cl.length = l.length -> (∀ (i : Nat) d cs, l[i]? = some d -> cl[i]? = some cs -> RD t d cs) -> RDs t l cl := by
 intro l; induction l with
 | nil => intro cl h _; rw [RDs]; simpa using h
 | cons e l ih =>
  intro cl h k
  cases cl with
  | nil => simp at h
  | cons c r =>
   rw [RDs]; exact ⟨c, r, rfl, k 0 e c (by simp) (by simp), ih (by simpa using h) fun i d cs h1 h2 => k (i + 1) d cs (by simpa using h1) (by simpa using h2)⟩
@[simp] theorem zkd {k : IntKind} {n : Int} {cs : List zab} : RD t (.int k n) cs ↔ cs = [.int k n] := Iff.rfl
@[simp] theorem zke {b : Bool} {cs : List zab} : RD t (.bool b) cs ↔ cs = [.bool b] := Iff.rfl
@[simp] theorem zpj {s : List Nat} {cs : List zab} : RD t (.str s) cs ↔ cs = [.str s] := Iff.rfl
def RSl (t : Tr zak) (sz : Nat) (l : List D) (v : zab) : Prop := ∃ cl, zk4 t sz v cl /\ RDs t l cl
theorem RSl.mono (h : TLe t t') {sz : Nat} {l : List D} {v : zab} (k : RSl t sz l v) : RSl t' sz l v := by
 obtain ⟨cl, h1, h2⟩ := k; exact ⟨cl, h1.mono h, RDs.mono h _ _ h2⟩
theorem zl8 {sz : Nat} {l : List D} {cs : List zab} : RD t (.sl sz l) cs ↔ ∃ v, cs = [v] /\ RSl t sz l v := by
 rw [RD]; constructor
 ·rintro ⟨a, cl, rfl, h1, h2⟩; exact ⟨a, rfl, cl, h1, h2⟩
 ·rintro ⟨a, rfl, cl, h1, h2⟩; exact ⟨a, cl, rfl, h1, h2⟩
theorem zi2 {l : List D} {cs : List zab} : RD t (.st l) cs ↔ ∃ cl, cs = cl.flatten /\ RDs t l cl := by rw [RD]
theorem zcr {cl : List (List zab)} : RDs t [] cl ↔ cl = [] := by rw [RDs]
theorem zba {d : D} {l : List D} {cl : List (List zab)} : RDs t (d :: l) cl ↔ ∃ c r, cl = c :: r /\ RD t d c /\ RDs t l r := by rw [RDs]
theorem RSl.one {sz : Nat} {l : List D} {v : zab} (h : RSl t sz l v) : zab.one v = true := by
 obtain ⟨cl, h1, _⟩ := h
 rcases h1 with ⟨rfl, _⟩ | ⟨b, off, cap, rfl, _⟩
 ·decide
 ·rfl
theorem RSl.len {sz : Nat} {l : List D} {v : zab} (h : RSl t sz l v) : zbm v = some (.int .i64 (l.length : Int)) := by
 obtain ⟨cl, h1, h2⟩ := h
 have := h2.length
 rcases h1 with ⟨rfl, rfl⟩ | ⟨b, off, cap, rfl, _⟩
 ·have : l.length = 0 := this.symm
  rw [this]; rfl
 ·rw [<- this]; rfl
theorem RSl.same {sz d : Nat} {l : List D} {v : zab} (h : RSl t sz l v) : same d v v = true := by
 obtain ⟨cl, h1, _⟩ := h
 rcases h1 with ⟨rfl, _⟩ | ⟨b, off, cap, rfl, _⟩
 ·cases d <;> (unfold Am.same; rfl)
 ·have e : ∀ n, Nat.beq n n = true := Nat.beq_refl
  cases d <;> (unfold Am.same; simp only [e, Bool.and_self])
theorem zsb {sz : Nat} {l : List D} {v : zab} (h : RSl t sz l v) : zzft .nilslice v = true := by
 obtain ⟨cl, h1, _⟩ := h
 rcases h1 with ⟨rfl, _⟩ | ⟨b, off, cap, rfl, _⟩ <;> rfl
theorem At.load {b off j n : Nat} {cs : List zab} (h : At t b off cs) {ty : Nat} {y : ATy} (hy : C.tys.get ty = some y) (ha : y.desc.isAgg = true) (hn : y.size = n) (hj : j + n <= cs.length) : zau C ty ⟨0, t⟩ (.ptr b (off + j)) = some (.agg ((cs.drop j).take n)) := by
 obtain ⟨c, m, lo, h1, h2⟩ := h
 unfold zau; simp only [zab.asPtr, zac]; rw [hy, zac]; unfold zaq; rw [h1, zac]; simp only [zak.asCells, zac]; unfold zob; rw [ha, cond_true, hn]; have key : ∀ (n j : Nat), j + n <= cs.length -> c.many n (off + j) = some ((cs.drop j).take n) := by
  intro n; induction n with
  | zero => intro j _; simp; rfl
  | succ n ih =>
   intro j hj; have hlt : j < cs.length := by omega
   rw [Tr.many_succ, h2 j cs[j] (yae hlt), zac, show off + j + 1 = off + (j + 1) by omega, ih (j + 1) (by omega), zac, yam hlt, List.take_succ_cons]
 rw [key n j hj]; rfl
theorem At.load1 {b off j : Nat} {cs : List zab} {a : zab} (h : At t b off cs) {ty : Nat} {y : ATy} (hy : C.tys.get ty = some y) (ha : y.desc.isAgg = false) (hj : cs[j]? = some a) : zau C ty ⟨0, t⟩ (.ptr b (off + j)) = some a := by
 obtain ⟨c, m, lo, h1, h2⟩ := h
 unfold zau; simp only [zab.asPtr, zac]; rw [hy, zac]; unfold zaq; rw [h1, zac]; simp only [zak.asCells, zac]; unfold zob; rw [ha, cond_false]; exact h2 j a hj
structure zpi (C : Ctx) (T el sz : Nat) (agg : Bool) : Prop where
 ty : ∃ y, C.tys.get T = some y /\ y.desc.asSlice = some el
 el : ∃ y, C.tys.get el = some y /\ y.size = sz /\ y.desc.isAgg = agg
def znv (agg : Bool) (cs : List zab) : zab := if agg then .agg cs else match cs with | a :: _ => a | [] => .nilptr
theorem zpi.at {T el sz : Nat} {agg : Bool} (h : zpi C T el sz agg) (h1 : agg = false -> sz = 1) {l : List D} {v : zab} (hr : RSl t sz l v) {i : Nat} {d : D} (hi : l[i]? = some d) :
  ∃ b off cs, zah C T v (.int .i64 (i : Int)) = some (.ptr b off) /\ zau C el ⟨0, t⟩ (.ptr b off) = some (znv agg cs) /\ At t b off cs /\ cs.length = sz /\ RD t d cs := by
 obtain ⟨⟨y, hy1, hy2⟩, ⟨z, hz1, hz2, hz3⟩⟩ := h
 obtain ⟨cl, he, hd⟩ := hr
 obtain ⟨cs, hc, hrd⟩ := hd.get hi
 rcases he with ⟨rfl, rfl⟩ | ⟨b, off, cap, rfl, _, _, he⟩
 ·simp at hc
 ·obtain ⟨hl, ha⟩ := he i cs hc
  have hlt : i < cl.length := (yad.1 hc).1
  refine ⟨b, off + i * sz, cs, ?_, ?_, ha, hl, hrd⟩
  ·unfold zah
   rw [hy1, zac]; have : (zab.int .i64 (i : Int)).asNat = some i := rfl
   rw [this, zac]; simp only [zab.asSlice]; rw [hy2, zac, hz1, zac, zc8.2 hlt, hz2]; rfl
  ·cases agg with
   | true =>
    have := ha.load (j := 0) hz1 hz3 hz2 (by omega)
    simp only [ybu, ybs] at this; rw [this, <- hl, List.take_length]; rfl
   | false =>
    have hs := h1 rfl
    cases cs with
    | nil => simp at hl; omega
    | cons a r =>
     have := ha.load1 (j := 0) (a := a) hz1 hz3 (by simp)
     rw [ybu] at this; rw [this]; rfl
end
section
variable {t : Tr zak} {C : Ctx}
theorem zpi.front {T el sz : Nat} {agg : Bool} (h : zpi C T el sz agg) {l : List D} {v : zab} (hr : RSl t sz l v) {k : Nat} (hk : k <= l.length) :
  ∃ v', zcu C T ⟨0, t⟩ v none (some (.int .i64 (k : Int))) = some v' /\ RSl t sz (l.take k) v' := by
 obtain ⟨⟨y, hy1, hy2⟩, ⟨z, hz1, hz2, hz3⟩⟩ := h
 obtain ⟨cl, he, hd⟩ := hr
 have hlen := hd.length
 unfold zcu; rw [hy1, zac]; have hb : ∀ y, zne y (.int .i64 (k : Int)) = zaj (Nat.ble k y) (some k) := fun y => rfl
 rcases he with ⟨rfl, rfl⟩ | ⟨b, off, cap, rfl, hcap, ⟨c, n, lo, hg, hlo⟩, he⟩
 ·have : k = 0 := by simp at hlen; omega
  subst this; refine ⟨.nilslice, ?_, [], .inl ⟨rfl, rfl⟩, by simp [RDs]⟩
  unfold zgd; simp only [zab.asStr, zab.asSlice, zab.asPtr]; rw [hy2, zac, hz1, zac]; rfl
 ·refine ⟨.slice b off k cap, ?_, cl.take k, .inr ⟨b, off, cap, ?_, ?_, ⟨c, n, lo, hg, hlo⟩, fun i cs hi => ?_⟩, ?_⟩
  ·unfold zgd
   simp only [zab.asStr, zab.asSlice]; rw [hy2, zac]; unfold zdt; rw [hz1, zac]; unfold zfn zsm; simp only [hb]; rw [show Nat.ble k cap = true from zh2.2 (by omega)]
   simp only [zam, zac]; have he2 : zcp ⟨0, t⟩ b z.size cap 0 false = false := by
    unfold zcp zaq; rw [hg, zac]; simp only [zak.asCells]; rcases hlo with rfl | ⟨x, rfl, hx⟩
    ·rfl
    ·simp
   rw [he2, Bool.and_false, cond_false]; have hf : zbi ⟨0, t⟩ b z.size cap 0 false = true := by
    unfold zbi zaq; rw [hg, zac]; simp only [zak.asCells]; rcases hlo with rfl | ⟨x, rfl, hx⟩
    ·rfl
    ·simp [hz2, hx]
   rw [show Nat.ble k cap = true from zh2.2 (by omega), hf]
   simp only [Bool.and_self, zam]; congr 1
   cases hq : Nat.beq cap 0 <;> simp
  ·rw [ycb]; congr 1; omega
  ·rw [ycb]; omega
  ·rw [ycg] at hi
   split at hi
   ·exact he i cs hi
   ·cases hi
  ·refine RDs.mk (by rw [ycb, ycb]; omega) fun i d cs h1 h2 => ?_
   rw [ycg] at h1 h2; split at h1
   ·rename_i e
    rw [if_pos e] at h2; obtain ⟨cs', h3, h4⟩ := hd.get h1
    rw [h3] at h2; cases h2; exact h4
   ·cases h1
end
mutual
def D.zs : D -> List zab
 | .int k _ => [.int k 0]
 | .bool _ => [.bool false]
 | .str _ => [.str []]
 | .sl _ _ => [.nilslice]
 | .st l => D.zss l
def D.zss : List D -> List zab
 | [] => []
 | d :: l => d.zs ++ D.zss l
end
theorem zy2 : ∀ (z z' l l' : List zab), zl4 z l = true -> zl4 z' l' = true -> zl4 (z ++ z') (l ++ l') = true
 | [], _, [], _, _, h => h
 | a :: z, z', b :: l, l', h, k => by
  unfold zl4 at h; rw [yac] at h; show (zzft a b && zl4 (z ++ z') (l ++ l')) = true
  rw [h.1, zy2 z z' l l' h.2 k]; rfl
 | [], _, _ :: _, _, h, _ => by cases h
 | _ :: _, _, [], _, h, _ => by cases h
mutual
theorem zwk {t : Tr zak} : ∀ (d : D) (cs : List zab), RD t d cs -> zl4 d.zs cs = true
 | .int k n, cs, h => by
  rw [RD] at h; subst h; show (zzft (.int k 0) (.int k n) && true) = true
  simp only [zzft, zab.asIntK, Bool.and_true]; exact zev.2 rfl
 | .bool _, cs, h => by rw [RD] at h; subst h; rfl
 | .str _, cs, h => by rw [RD] at h; subst h; rfl
 | .sl sz l, cs, h => by
  rw [zl8] at h; obtain ⟨v, rfl, h⟩ := h
  show (zzft .nilslice v && true) = true
  rw [zsb h]; rfl
 | .st l, cs, h => by
  rw [zi2] at h; obtain ⟨cl, rfl, h⟩ := h
  show zl4 (D.zss l) cl.flatten = true
  exact z4h l cl h
theorem z4h {t : Tr zak} : ∀ (l : List D) (cl : List (List zab)), RDs t l cl -> zl4 (D.zss l) cl.flatten = true
 | [], cl, h => by rw [RDs] at h; subst h; rfl
 | d :: l, cl, h => by
  rw [RDs] at h; obtain ⟨c, r, rfl, h1, h2⟩ := h
  show zl4 (d.zs ++ D.zss l) (c :: r).flatten = true
  rw [List.flatten_cons]; exact zy2 _ _ _ _ (zwk d c h1) (z4h l r h2)
end
theorem zai {k : IntKind} {n : Int} : zzjx k (.int k n) = some n := by unfold zzjx; simp only [zab.asIntK, zac]; rw [zev.2 rfl]; rfl
theorem ze1 {b : Bool} : (zab.bool b).asBool = some b := rfl
theorem zvs {d : Nat} {k : IntKind} {n : Int} : same d (.int k n) (.int k n) = true := by
 cases d <;> simp [same, zev, zie]
theorem zxx {d : Nat} {b : Bool} : same d (.bool b) (.bool b) = true := by cases d <;> simp [same, znh]
theorem zzd7 {d : Nat} {s : List Nat} : same d (.str s) (.str s) = true := by cases d <;> simp [same, zek]
theorem wrap_i64 {n : Int} (h1 : -9223372036854775808 <= n) (h2 : n < 9223372036854775808) : zag .i64 n = n := by
 rw [zdi]; simp only [IntKind.wrap, IntKind.bits, IntKind.signed]; simp; omega
theorem zst {t : Tr zak} {d : D} {cs zs : List zab} (h : RD t d cs) (hz : d.zs = zs) : z7b zs (.agg cs) = some (cellsOf cs) := by
 unfold z7b; simp only [zab.asAgg, zac]; rw [<- hz, zwk d cs h]; rfl
theorem zsu {zs l : List zab} (h : zl4 zs l = true) : z7b zs (.agg l) = some (cellsOf l) := by
 unfold z7b; simp only [zab.asAgg, zac, h]; rfl
end Go.Am
