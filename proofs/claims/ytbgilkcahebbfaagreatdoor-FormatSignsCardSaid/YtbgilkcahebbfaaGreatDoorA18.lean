/- Seat 13: strconv.FormatUint at base 10. -/
import Derived.KernelRfl
import Derived.Lib.AppendIntMem
import Derived.ProofKit
import Derived.Test.YtbgilkcahebbfaaGreatDoorA11
import Derived.Test.YtbgilkcahebbfaaGreatDoorA12
import Derived.Test.YtbgilkcahebbfaaGreatDoorA13
import Derived.Test.YtbgilkcahebbfaaGreatDoorA14
import Derived.Test.YtbgilkcahebbfaaGreatDoorA15
import Derived.Test.YtbgilkcahebbfaaGreatDoorA16
import Derived.Test.YtbgilkcahebbfaaGreatDoorA17
set_option linter.all false
noncomputable section
namespace Go.Proofs
open Go Go.Shelf Go.RowKit Go.Sort Go.Lib
set_option maxHeartbeats 1000000 in
set_option maxRecDepth 100000 in
theorem zvc (u : Nat) (hi : u < 100) (w : World) :
  Calls Tryz.prog 176 #[.int .u64 u, .int .i64 10] w fun e w' => e = .returned (.string ⟨(Lib.itoa u).toArray⟩) /\ ∃ k os, w' = Sort.grow (w.drewN k) os := by
 have hi' : (u : Int) < 100 := by omega
 have hw : IntKind.i64.wrap (u : Int) = u := by rw [IntKind.wrap_i64]; omega
 go_enter Tryz.func176, Tryz.ntmps176
 go_wp2_with (go_at_fn 178)
 refine (Tryz.internal_strconv_small u hi _).mono ?_
 rintro e w' ⟨rfl, rfl⟩
 go_wp2
 go_ret
 refine ⟨?_, 0, #[], by simp [World.drewN_zero, Sort.grow]⟩
 rw [Lib.itoa_nonneg]; rfl
set_option maxHeartbeats 4000000 in
set_option maxRecDepth 100000 in
theorem z2b (u : Nat) (hu : 100 <= u) (hu64 : u < 18446744073709551616) (w : World) (htab : Lib.TabIs Tryz.prog w "internal/strconv.uint64pow10" .u64 Lib.pow10Tab) :
  Calls Tryz.prog 176 #[.int .u64 u, .int .i64 10] w fun e w' => e = .returned (.string ⟨(Lib.itoa u).toArray⟩) /\ ∃ k os, w' = Sort.grow (w.drewN k) os := by
 have hu' : (100 : Int) <= (u : Int) := by omega
 have hu1 : 1 <= u := by omega
 have hnd20 : Lib.nDigits u <= 20 := by have := Lib.numDigits_eq u hu1 hu64; split at this <;> omega
 have hal : Tryz.prog.arrayLen 221 = 24 := by kernel_rfl
 have hel : Tryz.prog.elem 221 = 5 := by kernel_rfl
 have hsl : ∀ W, (Instr.sliceAt 221 (.pointer (some ⟨w.heap.size, 0, none⟩)) none (some (.int .i64 (Lib.nDigits u : Int))) none).run Tryz.prog W = .ok (.slice (some ⟨w.heap.size, 0, none⟩) (Lib.nDigits u) 24) W := fun W => by
  rw [run_sliceAt_array_h W 221 ⟨w.heap.size, 0, none⟩ (by rw [hal, hel]; exact Tryz.underlying221) .i64 (Lib.nDigits u : Int) (by omega) (by rw [hal]; omega)]
  rw [hal, hel, Tryz.sizeOf5]; simp [slicedAt, Addr.add]
 have hH0 := Lib.holds_zero0 w 221 (Lib.nDigits u) (by omega)
 have hfmt := Tryz.internal_strconv_formatBase10 w.heap.size 0 24 u (Array.replicate (Lib.nDigits u) 0) (w.alloc (.cells Lib.zeros24 221)) hH0 (by rw [Array.size_replicate]; exact Lib.lt_pow_nDigits u) hu64 (by rw [Array.size_replicate]; omega)
 rw [Array.size_replicate] at hfmt; have HH0 := Lib.hid hH0
 clear hH0 hal hel
 go_enter Tryz.func176, Tryz.ntmps176
 go_wp2_with (go_at_fn 179)
 refine (Tryz.internal_strconv_numDigits u hu1 hu64 _ (Lib.tabIs_alloc htab _)).mono ?_
 rintro e w' ⟨rfl, rfl⟩
 go_wp2_with (go_at_fn 180)
 refine hfmt.mono ?_
 rintro e w' ⟨rfl, k, v', dk, rfl, hF⟩
 have hcv : (convert 32 9 (.slice (some ⟨w.heap.size, 0, none⟩) (Lib.nDigits u) 24)).run Tryz.prog ((putRow (fun (b : UInt8) => Value.int .u8 (b.toNat : Int)) (w.alloc (.cells Lib.zeros24 221)) w.heap.size 0 dk).drewN k) = .ok (.string ⟨(Lib.decDigits u).toArray⟩) ((putRow (fun (b : UInt8) => Value.int .u8 (b.toNat : Int)) (w.alloc (.cells Lib.zeros24 221)) w.heap.size 0 dk).drewN k) := by
  have h := run_convert_bytes_back (P := Tryz.prog) ((putRow (fun (b : UInt8) => Value.int .u8 (b.toNat : Int)) (w.alloc (.cells Lib.zeros24 221)) w.heap.size 0 dk).drewN k) 32 9 5 ⟨w.heap.size, 0, none⟩ 24 (Lib.decDigits u) Tryz.underlying32 Tryz.underlying5 Tryz.underlying9 (fun j hj => by
   rw [Lib.row_is_numeral hF j hj, Lib.add_plain, World.cell?_drewN]; exact cell?_putRow (fun (b : UInt8) => Value.int .u8 (b.toNat : Int)) _ w.heap.size 0 _ dk HH0.out (by rw [hF.size, Array.size_replicate]) j (by rw [hF.size]; rw [Lib.decDigits_length] at hj; exact hj))
  rw [Lib.decDigits_length] at h; exact h
 go_wp2
 go_ret
 obtain ⟨os, eo⟩ := Lib.fin_at w (.cells Lib.zeros24 221) dk k 0
 refine ⟨?_, k, os, eo⟩
 rw [Lib.itoa_nonneg]; rfl
set_option maxHeartbeats 1000000 in
set_option maxRecDepth 100000 in
theorem uint13 (u : Nat) (hu64 : u < 18446744073709551616) (w : World) (htab : Lib.TabIs Tryz.prog w "internal/strconv.uint64pow10" .u64 Lib.pow10Tab) :
  Calls Tryz.prog 154 #[.int .u64 u, .int .i64 10] w fun e w' => e = .returned (.string ⟨(Lib.itoa u).toArray⟩) /\ ∃ k os, w' = Sort.grow (w.drewN k) os := by
 have key : Calls Tryz.prog 176 #[.int .u64 u, .int .i64 10] w fun e w' => e = .returned (.string ⟨(Lib.itoa u).toArray⟩) /\ ∃ k os, w' = Sort.grow (w.drewN k) os := by
  by_cases h : u < 100
  ·exact zvc u h w
  ·exact z2b u (by omega) hu64 w htab
 go_enter Tryz.func154, Tryz.ntmps154
 go_wp2_with (go_at_fn 176)
 refine key.mono ?_
 rintro e w' ⟨rfl, k, os, rfl⟩
 go_wp2
 go_ret
 exact ⟨rfl, k, os, rfl⟩
end Go.Proofs
set_option maxRecDepth 100000
namespace Go.Am
open Go Go.RowKit Go.Proofs
theorem z40 : allT (fun t ty => match tyOf Tryz.prog t with | some u => eqTy u ty | none => false) tys (fun n => n) = true := by kernel_rfl
theorem z4z {C : Ctx} (hC : C.tys = tys) : zcm Tryz.prog C := by
 intro t ty h; rw [hC] at h; have := zzgq tys _ z40 t ty h
 cases hu : tyOf Tryz.prog t with
 | none => rw [hu] at this; cases this
 | some u => rw [hu] at this; rw [zzf9 this]
theorem zyv : (Tryz.funcs.toList.all fun fn => !(fn.name == "runtime.NumGoroutine")) = true := by kernel_rfl
theorem z1n {C : Ctx} (hC : C.fns = fns) : zxh Tryz.prog C := by
 intro f fn h; rw [hC] at h; unfold fns at h; rw [Tr.get_ofList] at h; have h2 : Tryz.prog.funcs[f]? = some fn := by
  show Tryz.funcs[f]? = some fn
  simpa using h
 refine ⟨h2, ?_⟩
 have := ybc.1 zyv fn (ybw h)
 simpa using this
def u64s (l : List Int) : List Value := l.map fun n => .int .u64 n
theorem z0b {μ : Mu} : ∀ l : List Int, za9 μ (zzb0 .u64 l) (u64s l)
 | [] => .nil
 | b :: l => .cons (by rw [zal]) (z0b l)
structure zcf (w : World) : Prop where
 kinds : ∃ t, w.heap[0]? = some (.cells (zze4 zre).toArray t (0, 0))
 modes : ∃ t, w.heap[1]? = some (.cells (zze4 zrc).toArray t (0, 0))
 lens : ∃ t, w.heap[2]? = some (.cells (ints z95).toArray t (0, 0))
 most : ∃ m, w.cell? ⟨3, 0, none⟩ = some (.int .i64 m)
 pow : ∃ t, w.heap[5]? = some (.cells (u64s z94).toArray t (0, 0))
theorem zcf.size {w : World} (h : zcf w) : 6 <= w.heap.size := by
 obtain ⟨t, h⟩ := h.pow
 have := (yaf.1 h).1
 omega
theorem zcf.below {w w' : World} {N : Nat} (hN : 6 <= N) (h : zcf w) (hb : Below N w w') : zcf w' := by
 refine ⟨?_, ?_, ?_, ?_, ?_⟩
 ·obtain ⟨t, h⟩ := h.kinds; exact ⟨t, by rw [hb.block 0 (by omega)]; exact h⟩
 ·obtain ⟨t, h⟩ := h.modes; exact ⟨t, by rw [hb.block 1 (by omega)]; exact h⟩
 ·obtain ⟨t, h⟩ := h.lens; exact ⟨t, by rw [hb.block 2 (by omega)]; exact h⟩
 ·obtain ⟨m, h⟩ := h.most; exact ⟨m, by rw [hb.cell (p := ⟨3, 0, none⟩) (by show 3 < N; omega)]; exact h⟩
 ·obtain ⟨t, h⟩ := h.pow; exact ⟨t, by rw [hb.block 5 (by omega)]; exact h⟩
theorem zcf.tab {w : World} (h : zcf w) : Lib.TabIs Tryz.prog w "internal/strconv.uint64pow10" .u64 Lib.pow10Tab := by
 obtain ⟨t, h⟩ := h.pow
 have hg : Tryz.prog.globalNamed "internal/strconv.uint64pow10" = some 5 := by kernel_rfl
 unfold Lib.TabIs World.var?
 rw [hg]; simp only [Option.bind_some, h]; rfl
theorem hrel13 {w : World} (h : zcf w) : za3 256 w.heap.size mu0 H13 w := by
 have hget : ∀ a x, H13.t.get a = some x -> (a = 0 /\ x = .cells (Tr.ofList (zzdo zre)) (zbp (zzdo zre)) none) \/ (a = 1 /\ x = .cells (Tr.ofList (zzdo zrc)) (zbp (zzdo zrc)) none) \/ (a = 2 /\ x = .cells (Tr.ofList (zzb0 .i64 z95)) (zbp (zzb0 .i64 z95)) none) \/ (a = 5 /\ x = .cells (Tr.ofList (zzb0 .u64 z94)) (zbp (zzb0 .u64 z94)) none) := by
  intro a x hx; have hx : (glob 0 (zzdo zre) (glob 1 (zzdo zrc) (glob 2 (zzb0 .i64 z95) (glob 5 (zzb0 .u64 z94) .leaf)))).get a = some x := hx
  unfold glob at hx; rw [Tr.get_set, Tr.get_set, Tr.get_set, Tr.get_set] at hx; split at hx
  ·rename_i e; exact .inl ⟨e, (ybj hx).symm⟩
  ·split at hx
   ·rename_i e; exact .inr (.inl ⟨e, (ybj hx).symm⟩)
   ·split at hx
    ·rename_i e; exact .inr (.inr (.inl ⟨e, (ybj hx).symm⟩))
    ·split at hx
     ·rename_i e; exact .inr (.inr (.inr ⟨e, (ybj hx).symm⟩))
     ·rw [Tr.get_leaf] at hx; cases hx
 have hsz := h.size
 refine ⟨yal _, fun g hg => by simp [mu0, hg], fun a x i _ hx hi => ?_, yal _, yal _, fun a ha => ?_, fun a x i hx hi => ?_, fun a i ha hi => ?_, fun a b x y i j hx _ _ _ ha _ _ => ?_, fun a x t ha => by cases ha⟩
 ·rcases hget a x hx with ⟨rfl, rfl⟩ | ⟨rfl, rfl⟩ | ⟨rfl, rfl⟩ | ⟨rfl, rfl⟩ <;> cases hi <;> exact ⟨Nat.lt_of_lt_of_le (by decide) hsz, rfl, rfl⟩
 ·have ha : 256 <= a := ha
  refine ⟨by simp [mu0]; omega, ?_⟩
  cases hx : H13.t.get a with
  | none => rfl
  | some x => rcases hget a x hx with ⟨rfl, _⟩ | ⟨rfl, _⟩ | ⟨rfl, _⟩ | ⟨rfl, _⟩ <;> omega
 ·rcases hget a x hx with ⟨rfl, rfl⟩ | ⟨rfl, rfl⟩ | ⟨rfl, rfl⟩ | ⟨rfl, rfl⟩
  ·obtain ⟨t, h⟩ := h.kinds; cases hi; exact ⟨_, h, zl4 (zta zre) t⟩
  ·obtain ⟨t, h⟩ := h.modes; cases hi; exact ⟨_, h, zl4 (zta zrc) t⟩
  ·obtain ⟨t, h⟩ := h.lens; cases hi; exact ⟨_, h, zl4 (z1i z95) t⟩
  ·obtain ⟨t, h⟩ := h.pow; cases hi; exact ⟨_, h, zl4 (z0b z94) t⟩
 ·simp [mu0] at hi; omega
 ·rcases hget a x hx with ⟨rfl, _⟩ | ⟨rfl, _⟩ | ⟨rfl, _⟩ | ⟨rfl, _⟩ <;> omega
theorem zoi {s : ByteArray} {l : List Nat} (h : zbm s = l) : s.data.toList.map UInt8.toNat = l := h
theorem znz {f : Nat} {fn : Func} (hf : Tryz.funcs[f]? = some fn) (hb : fn.body.isSome = true) {args : Array Value} {w : World} : (callFunc f args).run Tryz.prog w = .ok (.enter f args) w :=
 zg2 (C := C13w) (z1n rfl) (show fns.get f = some fn by unfold fns; rw [Tr.get_ofList]; simpa using hf) hb
section
variable {B N : Nat} {μ : Mu} {H : zaf} {w : World} {args : List zab} {args' : Array Value} {v : zab}
theorem zog {a b : zab} (h : za9 μ [a, b] args'.toList) : ∃ x y, args' = #[x, y] /\ zal μ a x /\ zal μ b y := by
 rw [za9] at h; obtain ⟨x, r, h1, h2, h3⟩ := h
 rw [za9] at h3; obtain ⟨y, r', h4, h5, h6⟩ := h3
 rw [za9] at h6; subst h4 h6
 exact ⟨x, y, by apply Array.toList_inj.1; simpa using h1, h2, h5⟩
theorem z2s (hv : zmr args H = some v) (hl : za9 μ args args'.toList) :
  (callFunc 188 args').run Tryz.prog w = .ok (.enter 188 args') w /\ Calls Tryz.prog 188 args' w fun e w' => ∃ v', e = .returned v' /\ zal μ v v' /\ Below w.heap.size w w' := by
 refine ⟨znz (fn := Tryz.f188) Tryz.func188 (by kernel_rfl), ?_⟩
 unfold zmr at hv; split at hv
 case h_2 => cases hv
 rename_i s c; rw [zae, zcz] at hv; obtain ⟨hc, hv⟩ := hv
 cases hv; obtain ⟨x, y, rfl, hx, hy⟩ := zog hl
 simp only [zal] at hx hy; obtain ⟨s', rfl, hs⟩ := hx
 subst hy; refine (Tryz.stringslite_IndexByte s' (Int.ofNat c) w).mono fun e w' ⟨he, hw⟩ => ?_
 subst hw; refine ⟨_, he, ?_, Below.refl _ _⟩
 have hcc : (c.toUInt8).toNat = c := by simp [Nat.toUInt8, UInt8.toNat_ofNat']; omega
 have := z1j c.toUInt8 s'.data.toList
 rw [hcc, zoi hs] at this; rw [zal]; show Value.int .i64 (Lib.indexByte s'.data.toList c.toUInt8) = _
 rw [<- this]; done
theorem zto (hI : zcf w) (hv : zpn args H = some v) (hl : za9 μ args args'.toList) :
  (callFunc 113 args').run Tryz.prog w = .ok (.enter 113 args') w /\ Calls Tryz.prog 113 args' w fun e w' => ∃ v', e = .returned v' /\ zal μ v v' /\ Below w.heap.size w w' := by
 refine ⟨znz (fn := Tryz.f113) Tryz.func113 (by kernel_rfl), ?_⟩
 unfold zpn at hv; split at hv
 case h_2 => cases hv
 rename_i s c; rw [zae, zcz, zav] at hv; obtain ⟨hlen, hv⟩ := hv
 cases hv; obtain ⟨x, y, rfl, hx, hy⟩ := zog hl
 rw [zal] at hx hy; obtain ⟨s', rfl, hs⟩ := hx
 obtain ⟨c', rfl, hc⟩ := hy
 obtain ⟨m, hm⟩ := hI.most
 have hsz : s'.size < 4294967281 := by
  have := congrArg List.length (zoi hs)
  simp at this; omega
 refine (Tryz.strings_Contains s' c' m w hsz hm).mono fun e w' ⟨he, hw⟩ => ?_
 subst hw; refine ⟨_, he, ?_, Below.refl _ _⟩
 have := zql c'.data.toList s'.data.toList
 rw [zoi hs, zoi hc] at this; rw [zal, this]
theorem zsv (k : Nat) (os : Array Obj) : Below w.heap.size w (Sort.grow (w.drewN k) os) := by
 refine ⟨rfl, rfl, rfl, ?_, fun j hj => ?_⟩
 ·simp [Sort.grow, World.drewN]
 ·show (w.heap ++ os)[j]? = w.heap[j]?
  rw [Array.getElem?_append_left hj]
theorem zvw (hI : zcf w) (hv : z2x args H = some v) (hl : za9 μ args args'.toList) :
  (callFunc 98 args').run Tryz.prog w = .ok (.enter 98 args') w /\ Calls Tryz.prog 98 args' w fun e w' => ∃ v', e = .returned v' /\ zal μ v v' /\ Below w.heap.size w w' := by
 refine ⟨znz (fn := Tryz.f98) Tryz.func98 (by kernel_rfl), ?_⟩
 unfold z2x at hv; split at hv
 case h_2 => cases hv
 rename_i n; rw [zae, yac] at hv; obtain ⟨⟨h1, h2⟩, hv⟩ := hv
 cases hv; rw [za9] at hl; obtain ⟨x, r, he, hx, hr⟩ := hl
 rw [za9] at hr; rw [zal] at hx; subst hr hx
 have : args' = #[.int .i64 n] := by apply Array.toList_inj.1; simpa using he
 subst this; have g1 : -9223372036854775808 <= n := (zt5 _ _).1 h1
 have g2 : n < 9223372036854775808 := (zm1 _ _).1 h2
 refine (Tryz.strconv_Itoa n g1 (by omega) w hI.tab).mono fun e w' ⟨he, k, os, hw⟩ => ?_
 subst hw; exact ⟨_, he, by rw [zal]; exact ⟨_, rfl, rfl⟩, zsv k os⟩
theorem zvv (hI : zcf w) (hv : z6n args H = some v) (hl : za9 μ args args'.toList) :
  (callFunc 154 args').run Tryz.prog w = .ok (.enter 154 args') w /\ Calls Tryz.prog 154 args' w fun e w' => ∃ v', e = .returned v' /\ zal μ v v' /\ Below w.heap.size w w' := by
 refine ⟨znz (fn := Tryz.f154) Tryz.func154 (by kernel_rfl), ?_⟩
 unfold z6n at hv; split at hv
 case h_2 => cases hv
 rename_i n b; rw [zae, yac, yac] at hv; obtain ⟨⟨⟨h1, h2⟩, h3⟩, hv⟩ := hv
 cases hv; obtain ⟨x, y, rfl, hx, hy⟩ := zog hl
 rw [zal] at hx hy; subst hx hy
 have g1 : 0 <= n := (zt5 _ _).1 h1
 have g2 : n < 18446744073709551616 := (zm1 _ _).1 h2
 obtain rfl : b = 10 := (zhi _ _).1 h3
 obtain ⟨u, rfl⟩ : ∃ u : Nat, n = u := ⟨n.toNat, by omega⟩
 refine (uint13 u (by omega) w hI.tab).mono fun e w' ⟨he, k, os, hw⟩ => ?_
 subst hw; exact ⟨_, he, by rw [zal]; exact ⟨_, rfl, rfl⟩, zsv k os⟩
end
section
variable {B N : Nat} {μ : Mu} {H H' : zaf} {w : World} {args : List zab} {args' : Array Value} {v : zab}
theorem z2t {base : Nat} (hbase : B <= base) (hH : za3 B N μ H w) (hv : z0z base zyy args H = some (v, H')) (hl : za9 μ args args'.toList) :
  (callFunc 46 args').run Tryz.prog w = .ok (.enter 46 args') w /\ Calls Tryz.prog 46 args' w fun e w' => ∃ v' μ', e = .returned v' /\ μ.le μ' /\ za3 B N μ' H' w' /\ Below N w w' /\ zal μ' v v' :=
 z6o hbase (fun p hp b n w h1 h2 h3 h4 => by
  unfold zyy at hp; rcases yat.1 hp with rfl | hp
  ·exact zuk b n w h1 h2 (show 2 < n from h3) h4
  ·obtain rfl : p = (77, 2) := by simpa using hp
   exact zqm b n w h1 h2 (show 1 < n from h3) h4) (fun b w h => zwz b w h) (fun w a => znz (fn := Tryz.f46) Tryz.func46 (by kernel_rfl)) hH hv hl
theorem zym {base : Nat} (hbase : B <= base) (hH : za3 B N μ H w) (hv : ztr base 5 args H = some (v, H')) (hl : za9 μ args args'.toList) :
  (callFunc 25 args').run Tryz.prog w = .ok (.enter 25 args') w /\ Calls Tryz.prog 25 args' w fun e w' => ∃ v' μ', e = .returned v' /\ μ.le μ' /\ za3 B N μ' H' w' /\ Below N w w' /\ zal μ' v v' :=
 z2w Tryz.lays169 Tryz.Builder_Extra_169 (f := 25) rfl hbase (fun w a => znz (fn := Tryz.f25) Tryz.func25 (by kernel_rfl)) hH hv hl
end
theorem zfg {α : Type} {t : Tr α} {i j : Nat} {x y : α} (h : (t.set i x).get j = some y) : (j = i /\ x = y) \/ t.get j = some y := by
 rw [Tr.get_set] at h; split at h
 ·rename_i e; exact .inl ⟨e, ybj h⟩
 ·exact .inr h
theorem zpl (f0 N : Nat) : zng Tryz.prog (z13 f0) 256 N zcf := by
 intro f g hg args H v H' hv μ w args' hH hI hl; have hg : zok.get f = some g := hg
 unfold zok at hg; rcases zfg hg with ⟨rfl, rfl⟩ | hg
 ·exact zfq hv hH fun hv => z2s hv hl
 rcases zfg hg with ⟨rfl, rfl⟩ | hg
 ·exact zfq hv hH fun hv => zto hI hv hl
 rcases zfg hg with ⟨rfl, rfl⟩ | hg
 ·exact zfq hv hH fun hv => zvv hI hv hl
 rcases zfg hg with ⟨rfl, rfl⟩ | hg
 ·exact zfq hv hH fun hv => zvw hI hv hl
 rcases zfg hg with ⟨rfl, rfl⟩ | hg
 ·exact .inr (zym (yal _) hH hv hl)
 rcases zfg hg with ⟨rfl, rfl⟩ | hg
 ·exact .inr (z2t (yal _) hH hv hl)
 ·rw [Tr.get_leaf] at hg; cases hg
theorem sim13v (f0 N : Nat) (hN : 6 <= N) : Sim Tryz.prog (z13 f0) 256 N zcf :=
 ⟨z4z rfl, z1n rfl, zpl f0 N, yal _, by kernel_rfl, fun _ _ hb h => h.below hN hb⟩
theorem zo4 {C : Ctx} {f n : Nat} {args : List zab} {args' : Array Value} {w : World} (hw : zcf w) (hS : Sim Tryz.prog C 256 w.heap.size zcf) (hroot : C.root = f) (hl : za9 mu0 args args'.toList)
  (h : fin (z2n C n (zk9 C f args H13)) = 1) : Calls Tryz.prog f args' w fun e w' => e = .returned (.bool true) /\ Below w.heap.size w w' := by
 obtain ⟨H', hr⟩ := zzf5 h
 unfold zk9 at hr; have stuck : ∀ (n k : Nat), z2n C n (.fail k) = .fail k := by
  intro n; induction n with
  | zero => intro k; rfl
  | succ n ih =>
   intro k; show z2n C n (z2n C n (.fail k)) = _
   rw [ih, ih]
 cases he : zey C f args false with
 | none =>
  rw [he] at hr; rw [stuck] at hr
  cases hr
 | some g =>
  rw [he] at hr; refine (zw1 hS hw hroot (hrel13 hw) hl he hr).mono fun e w' ⟨v', μ', h1, _, h3, _, h5⟩ => ?_
  rw [zal] at h3; exact ⟨by rw [h1, h3], h5⟩
theorem z75 : ∀ {l : List (List Nat × List Nat)} {a b : List Nat}, inW l a b = true -> (a, b) ∈ l
 | [], _, _, h => by cases h
 | p :: r, a, b, h => by
  unfold inW at h; rw [zak] at h; split at h
  ·rename_i e
   rw [yac] at e; have h1 := (zdb _ _).1 e.1
   have h2 := (zdb _ _).1 e.2
   rw [<- h1, <- h2]; exact .head _
  ·exact .tail _ (z75 h)
theorem z15 : ∀ p ∈ z4k, fin (z2n (z13 15) 16 (zk9 (z13 15) 15 [.str p.1, .str p.2] H13)) = 1 := by
 intro p hp; unfold z4k at hp; rcases yat.1 hp with rfl | hp
 ·exact zxt
 rcases yat.1 hp with rfl | hp
 ·exact zxs
 rcases yat.1 hp with rfl | hp
 ·exact zxr
 rcases yat.1 hp with rfl | hp
 ·exact zxq
 rcases yat.1 hp with rfl | hp
 ·exact zxp
 ·cases hp
theorem zyl {μ : Mu} {H : zaf} {w : World} {args : List zab} {args' : Array Value} {v : zab} (hI : zcf w) (hv : zyo args H = some v) (hl : za9 μ args args'.toList) :
  (callFunc 15 args').run Tryz.prog w = .ok (.enter 15 args') w /\ Calls Tryz.prog 15 args' w fun e w' => ∃ v', e = .returned v' /\ zal μ v v' /\ Below w.heap.size w w' := by
 refine ⟨znz (fn := Tryz.f15) Tryz.func15 (by kernel_rfl), ?_⟩
 unfold zyo at hv; split at hv
 case h_2 => cases hv
 rename_i a b; rw [zae] at hv; obtain ⟨h1, hv⟩ := hv
 cases hv; obtain ⟨x, y, rfl, hx, hy⟩ := zog hl
 rw [zal] at hx hy; refine (zo4 hI (sim13v 15 w.heap.size hI.size) rfl (args' := #[x, y]) (.cons (by rw [zal]; exact hx) (.single (by rw [zal]; exact hy))) (z15 _ (z75 h1))).mono fun e w' ⟨h1, h2⟩ => ?_
 exact ⟨_, h1, by rw [zal], h2⟩
theorem zyk (N : Nat) : zng Tryz.prog C13w 256 N zcf := by
 intro f g hg args H v H' hv μ w args' hH hI hl; have hg : ztn.get f = some g := hg
 unfold ztn at hg; rcases zfg hg with ⟨rfl, rfl⟩ | hg
 ·exact zfq hv hH fun hv => zyl hI hv hl
 ·exact zpl 6 N f g hg args H v H' hv μ w args' hH hI hl
theorem sim13w (N : Nat) (hN : 6 <= N) : Sim Tryz.prog C13w 256 N zcf :=
 ⟨z4z rfl, z1n rfl, zyk N, yal _, by kernel_rfl, fun _ _ hb h => h.below hN hb⟩
theorem zzt {w : World} (hw : zcf w) : Calls Tryz.prog 6 #[] w fun e w' => e = .returned (.bool true) /\ Below w.heap.size w w' :=
 zo4 hw (sim13w _ hw.size) rfl .nil z9i
theorem z2u {μ : Mu} {H : zaf} {w : World} {args : List zab} {args' : Array Value} {v : zab} (hI : zcf w) (hv : zzbb args H = some v) (hl : za9 μ args args'.toList) :
  (callFunc 6 args').run Tryz.prog w = .ok (.enter 6 args') w /\ Calls Tryz.prog 6 args' w fun e w' => ∃ v', e = .returned v' /\ zal μ v v' /\ Below w.heap.size w w' := by
 refine ⟨znz (fn := Tryz.f6) Tryz.func6 (by kernel_rfl), ?_⟩
 unfold zzbb at hv; split at hv
 case h_2 => cases hv
 cases hv; rw [za9] at hl; have : args' = #[] := by apply Array.toList_inj.1; simpa using hl
 subst this; exact (zzt hI).mono fun e w' ⟨h1, h2⟩ => ⟨_, h1, by rw [zal], h2⟩
end Go.Am
namespace Go.Am
open Go Go.RowKit
@[simp] theorem zar {α : Type} {x : Option α} : zah true x = x := rfl
inductive D where
 | int (k : IntKind) (n : Int)
 | bool (b : Bool)
 | str (s : List Nat)
 | sl (sz : Nat) (l : List D)
 | st (l : List D)
def At (t : Tr zam) (b off : Nat) (cs : List zab) : Prop := ∃ c n lo, t.get b = some (.cells c n lo) /\ ∀ (j : Nat) a, cs[j]? = some a -> c.get (off + j) = some a
def zna (t : Tr zam) (sz : Nat) (v : zab) (cl : List (List zab)) : Prop :=
 (v = .nilslice /\ cl = []) \/ ∃ b off cap, v = .slice b off cl.length cap /\ cl.length <= cap /\ (∃ c n lo, t.get b = some (.cells c n lo) /\ (lo = none \/ ∃ x, lo = some x /\ x.es = sz)) /\ ∀ (i : Nat) cs, cl[i]? = some cs -> cs.length = sz /\ At t b (off + i * sz) cs
mutual
/-- cells read as data -/
def RD (t : Tr zam) : D -> List zab -> Prop
 | .int k n, cs => cs = [.int k n]
 | .bool b, cs => cs = [.bool b]
 | .str s, cs => cs = [.str s]
 | .sl sz l, cs => ∃ a cl, cs = [a] /\ zna t sz a cl /\ RDs t l cl
 | .st l, cs => ∃ cl, cs = cl.flatten /\ RDs t l cl
def RDs (t : Tr zam) : List D -> List (List zab) -> Prop
 | [], cl => cl = []
 | d :: l, cl => ∃ c r, cl = c :: r /\ RD t d c /\ RDs t l r
end
def TLe (t t' : Tr zam) : Prop := ∀ b y, t.get b = some y -> t'.get b = some y
theorem TLe.refl (t : Tr zam) : TLe t t := fun _ _ h => h
theorem TLe.trans {a b c : Tr zam} (h : TLe a b) (k : TLe b c) : TLe a c := fun x y e => k x y (h x y e)
section
variable {t t' : Tr zam} {C : Ctx}
theorem At.mono (h : TLe t t') {b off : Nat} {cs : List zab} (k : At t b off cs) : At t' b off cs := by
 obtain ⟨c, n, lo, h1, h2⟩ := k; exact ⟨c, n, lo, h _ _ h1, h2⟩
theorem zna.mono (h : TLe t t') {sz : Nat} {v : zab} {cl : List (List zab)} (k : zna t sz v cl) : zna t' sz v cl := by
 rcases k with k | ⟨b, off, cap, h1, h3, ⟨c, n, lo, h4, h5⟩, h2⟩
 ·exact .inl k
 ·exact .inr ⟨b, off, cap, h1, h3, ⟨c, n, lo, h _ _ h4, h5⟩, fun i cs hi => ⟨(h2 i cs hi).1, (h2 i cs hi).2.mono h⟩⟩
mutual
theorem RD.mono (h : TLe t t') : ∀ (d : D) (cs : List zab), RD t d cs -> RD t' d cs
 | .int _ _, _, k => k
 | .bool _, _, k => k
 | .str _, _, k => k
 | .sl _ l, _, ⟨a, cl, h1, h2, h3⟩ => ⟨a, cl, h1, h2.mono h, RDs.mono h l cl h3⟩
 | .st l, _, ⟨cl, h1, h2⟩ => ⟨cl, h1, RDs.mono h l cl h2⟩
theorem RDs.mono (h : TLe t t') : ∀ (l : List D) (cl : List (List zab)), RDs t l cl -> RDs t' l cl
 | [], _, k => k
 | d :: l, _, ⟨c, r, h1, h2, h3⟩ => ⟨c, r, h1, RD.mono h d c h2, RDs.mono h l r h3⟩
end
theorem RDs.length : ∀ {l : List D} {cl : List (List zab)}, RDs t l cl -> cl.length = l.length := by
 intro l; induction l with
 | nil => intro cl h; rw [RDs] at h; simp [h]
 | cons d l ih => intro cl h; rw [RDs] at h; obtain ⟨c, r, rfl, _, h3⟩ := h; simp [ih h3]
theorem RDs.get : ∀ {l : List D} {cl : List (List zab)} {i : Nat} {d : D}, RDs t l cl -> l[i]? = some d -> ∃ cs, cl[i]? = some cs /\ RD t d cs := by
 intro l; induction l with
 | nil => intro cl i d _ h; simp at h
 | cons e l ih =>
  intro cl i d h hi; rw [RDs] at h; obtain ⟨c, r, rfl, h2, h3⟩ := h
  cases i with
  | zero => simp at hi; subst hi; exact ⟨c, by simp, h2⟩
  | succ i => simp at hi; obtain ⟨cs, h4, h5⟩ := ih h3 hi; exact ⟨cs, by simpa using h4, h5⟩
theorem RDs.mk : ∀ {l : List D} {cl : List (List zab)}, cl.length = l.length -> (∀ (i : Nat) d cs, l[i]? = some d -> cl[i]? = some cs -> RD t d cs) -> RDs t l cl := by
 intro l; induction l with
 | nil => intro cl h _; rw [RDs]; simpa using h
 | cons e l ih =>
  intro cl h k
  cases cl with
  | nil => simp at h
  | cons c r =>
   rw [RDs]; exact ⟨c, r, rfl, k 0 e c (by simp) (by simp), ih (by simpa using h) fun i d cs h1 h2 => k (i + 1) d cs (by simpa using h1) (by simpa using h2)⟩
@[simp] theorem z9t {k : IntKind} {n : Int} {cs : List zab} : RD t (.int k n) cs ↔ cs = [.int k n] := Iff.rfl
@[simp] theorem zz1 {b : Bool} {cs : List zab} : RD t (.bool b) cs ↔ cs = [.bool b] := Iff.rfl
@[simp] theorem RD_str {s : List Nat} {cs : List zab} : RD t (.str s) cs ↔ cs = [.str s] := Iff.rfl
def RSl (t : Tr zam) (sz : Nat) (l : List D) (v : zab) : Prop := ∃ cl, zna t sz v cl /\ RDs t l cl
theorem RSl.mono (h : TLe t t') {sz : Nat} {l : List D} {v : zab} (k : RSl t sz l v) : RSl t' sz l v := by
 obtain ⟨cl, h1, h2⟩ := k; exact ⟨cl, h1.mono h, RDs.mono h _ _ h2⟩
theorem zzc7 {sz : Nat} {l : List D} {cs : List zab} : RD t (.sl sz l) cs ↔ ∃ v, cs = [v] /\ RSl t sz l v := by
 rw [RD]; constructor
 ·rintro ⟨a, cl, rfl, h1, h2⟩; exact ⟨a, rfl, cl, h1, h2⟩
 ·rintro ⟨a, rfl, cl, h1, h2⟩; exact ⟨a, cl, rfl, h1, h2⟩
theorem zzc6 {l : List D} {cs : List zab} : RD t (.st l) cs ↔ ∃ cl, cs = cl.flatten /\ RDs t l cl := by rw [RD]
theorem zik {cl : List (List zab)} : RDs t [] cl ↔ cl = [] := by rw [RDs]
theorem zim {d : D} {l : List D} {cl : List (List zab)} : RDs t (d :: l) cl ↔ ∃ c r, cl = c :: r /\ RD t d c /\ RDs t l r := by rw [RDs]
theorem RSl.one {sz : Nat} {l : List D} {v : zab} (h : RSl t sz l v) : zab.one v = true := by
 obtain ⟨cl, h1, _⟩ := h
 rcases h1 with ⟨rfl, _⟩ | ⟨b, off, cap, rfl, _⟩
 ·decide
 ·rfl
theorem RSl.len {sz : Nat} {l : List D} {v : zab} (h : RSl t sz l v) : zbw v = some (.int .i64 (l.length : Int)) := by
 obtain ⟨cl, h1, h2⟩ := h
 have := h2.length
 rcases h1 with ⟨rfl, rfl⟩ | ⟨b, off, cap, rfl, _⟩
 ·have : l.length = 0 := this.symm
  rw [this]; rfl
 ·rw [<- this]; rfl
theorem RSl.same {sz d : Nat} {l : List D} {v : zab} (h : RSl t sz l v) : same d v v = true := by
 obtain ⟨cl, h1, _⟩ := h
 rcases h1 with ⟨rfl, _⟩ | ⟨b, off, cap, rfl, _⟩
 ·cases d <;> (unfold Am.same; rfl)
 ·have e : ∀ n, Nat.beq n n = true := Nat.beq_refl
  cases d <;> (unfold Am.same; simp only [e, Bool.and_self])
theorem zqe {sz : Nat} {l : List D} {v : zab} (h : RSl t sz l v) : zzcc .nilslice v = true := by
 obtain ⟨cl, h1, _⟩ := h
 rcases h1 with ⟨rfl, _⟩ | ⟨b, off, cap, rfl, _⟩ <;> rfl
theorem At.load {b off j n : Nat} {cs : List zab} (h : At t b off cs) {ty : Nat} {y : ATy} (hy : C.tys.get ty = some y) (ha : y.desc.isAgg = true) (hn : y.size = n) (hj : j + n <= cs.length) : za2 C ty ⟨0, t⟩ (.ptr b (off + j)) = some (.agg ((cs.drop j).take n)) := by
 obtain ⟨c, m, lo, h1, h2⟩ := h
 unfold za2; simp only [zab.asPtr, zad]; rw [hy, zad]; unfold zaq; rw [h1, zad]; simp only [zam.asCells, zad]; unfold zmw; rw [ha, cond_true, hn]; have key : ∀ (n j : Nat), j + n <= cs.length -> c.many n (off + j) = some ((cs.drop j).take n) := by
  intro n; induction n with
  | zero => intro j _; simp; rfl
  | succ n ih =>
   intro j hj; have hlt : j < cs.length := by omega
   rw [Tr.many_succ, h2 j cs[j] (yae hlt), zad, show off + j + 1 = off + (j + 1) by omega, ih (j + 1) (by omega), zad, yam hlt, List.take_succ_cons]
 rw [key n j hj]; rfl
theorem At.load1 {b off j : Nat} {cs : List zab} {a : zab} (h : At t b off cs) {ty : Nat} {y : ATy} (hy : C.tys.get ty = some y) (ha : y.desc.isAgg = false) (hj : cs[j]? = some a) : za2 C ty ⟨0, t⟩ (.ptr b (off + j)) = some a := by
 obtain ⟨c, m, lo, h1, h2⟩ := h
 unfold za2; simp only [zab.asPtr, zad]; rw [hy, zad]; unfold zaq; rw [h1, zad]; simp only [zam.asCells, zad]; unfold zmw; rw [ha, cond_false]; exact h2 j a hj
structure zxl (C : Ctx) (T el sz : Nat) (agg : Bool) : Prop where
 ty : ∃ y, C.tys.get T = some y /\ y.desc.asSlice = some el
 el : ∃ y, C.tys.get el = some y /\ y.size = sz /\ y.desc.isAgg = agg
def zrl (agg : Bool) (cs : List zab) : zab := if agg then .agg cs else match cs with | a :: _ => a | [] => .nilptr
theorem zxl.at {T el sz : Nat} {agg : Bool} (h : zxl C T el sz agg) (h1 : agg = false -> sz = 1) {l : List D} {v : zab} (hr : RSl t sz l v) {i : Nat} {d : D} (hi : l[i]? = some d) :
  ∃ b off cs, zaj C T v (.int .i64 (i : Int)) = some (.ptr b off) /\ za2 C el ⟨0, t⟩ (.ptr b off) = some (zrl agg cs) /\ At t b off cs /\ cs.length = sz /\ RD t d cs := by
 obtain ⟨⟨y, hy1, hy2⟩, ⟨z, hz1, hz2, hz3⟩⟩ := h
 obtain ⟨cl, he, hd⟩ := hr
 obtain ⟨cs, hc, hrd⟩ := hd.get hi
 rcases he with ⟨rfl, rfl⟩ | ⟨b, off, cap, rfl, _, _, he⟩
 ·simp at hc
 ·obtain ⟨hl, ha⟩ := he i cs hc
  have hlt : i < cl.length := (yad.1 hc).1
  refine ⟨b, off + i * sz, cs, ?_, ?_, ha, hl, hrd⟩
  ·unfold zaj
   rw [hy1, zad]; have : (zab.int .i64 (i : Int)).asNat = some i := rfl
   rw [this, zad]; simp only [zab.asSlice]; rw [hy2, zad, hz1, zad, zcz.2 hlt, hz2]; rfl
  ·cases agg with
   | true =>
    have := ha.load (j := 0) hz1 hz3 hz2 (by omega)
    simp only [ybu, ybs] at this; rw [this, <- hl, List.take_length]; rfl
   | false =>
    have hs := h1 rfl
    cases cs with
    | nil => simp at hl; omega
    | cons a r =>
     have := ha.load1 (j := 0) (a := a) hz1 hz3 (by simp)
     rw [ybu] at this; rw [this]; rfl
end
section
variable {t : Tr zam} {C : Ctx}
theorem zxl.front {T el sz : Nat} {agg : Bool} (h : zxl C T el sz agg) {l : List D} {v : zab} (hr : RSl t sz l v) {k : Nat} (hk : k <= l.length) :
  ∃ v', zcr C T ⟨0, t⟩ v none (some (.int .i64 (k : Int))) = some v' /\ RSl t sz (l.take k) v' := by
 obtain ⟨⟨y, hy1, hy2⟩, ⟨z, hz1, hz2, hz3⟩⟩ := h
 obtain ⟨cl, he, hd⟩ := hr
 have hlen := hd.length
 unfold zcr; rw [hy1, zad]; have hb : ∀ y, zl6 y (.int .i64 (k : Int)) = zah (Nat.ble k y) (some k) := fun y => rfl
 rcases he with ⟨rfl, rfl⟩ | ⟨b, off, cap, rfl, hcap, ⟨c, n, lo, hg, hlo⟩, he⟩
 ·have : k = 0 := by simp at hlen; omega
  subst this; refine ⟨.nilslice, ?_, [], .inl ⟨rfl, rfl⟩, by simp [RDs]⟩
  unfold zfx; simp only [zab.asStr, zab.asSlice, zab.asPtr]; rw [hy2, zad, hz1, zad]; rfl
 ·refine ⟨.slice b off k cap, ?_, cl.take k, .inr ⟨b, off, cap, ?_, ?_, ⟨c, n, lo, hg, hlo⟩, fun i cs hi => ?_⟩, ?_⟩
  ·unfold zfx
   simp only [zab.asStr, zab.asSlice]; rw [hy2, zad]; unfold zdo; rw [hz1, zad]; unfold zfe zqn; simp only [hb]; rw [show Nat.ble k cap = true from zhm.2 (by omega)]
   simp only [zar, zad]; have he2 : zca ⟨0, t⟩ b z.size cap 0 false = false := by
    unfold zca zaq; rw [hg, zad]; simp only [zam.asCells]; rcases hlo with rfl | ⟨x, rfl, hx⟩
    ·rfl
    ·simp
   rw [he2, Bool.and_false, cond_false]; have hf : za6 ⟨0, t⟩ b z.size cap 0 false = true := by
    unfold za6 zaq; rw [hg, zad]; simp only [zam.asCells]; rcases hlo with rfl | ⟨x, rfl, hx⟩
    ·rfl
    ·simp [hz2, hx]
   rw [show Nat.ble k cap = true from zhm.2 (by omega), hf]
   simp only [Bool.and_self, zar]; congr 1
   cases hq : Nat.beq cap 0 <;> simp
  ·rw [ycb]; congr 1; omega
  ·rw [ycb]; omega
  ·rw [ycg] at hi
   split at hi
   ·exact he i cs hi
   ·cases hi
  ·refine RDs.mk (by rw [ycb, ycb]; omega) fun i d cs h1 h2 => ?_
   rw [ycg] at h1 h2; split at h1
   ·rename_i e
    rw [if_pos e] at h2; obtain ⟨cs', h3, h4⟩ := hd.get h1
    rw [h3] at h2; cases h2; exact h4
   ·cases h1
end
mutual
def D.zs : D -> List zab
 | .int k _ => [.int k 0]
 | .bool _ => [.bool false]
 | .str _ => [.str []]
 | .sl _ _ => [.nilslice]
 | .st l => D.zss l
def D.zss : List D -> List zab
 | [] => []
 | d :: l => d.zs ++ D.zss l
end
theorem zwp : ∀ (z z' l l' : List zab), zly z l = true -> zly z' l' = true -> zly (z ++ z') (l ++ l') = true
 | [], _, [], _, _, h => h
 | a :: z, z', b :: l, l', h, k => by
  unfold zly at h; rw [yac] at h; show (zzcc a b && zly (z ++ z') (l ++ l')) = true
  rw [h.1, zwp z z' l l' h.2 k]; rfl
 | [], _, _ :: _, _, h, _ => by cases h
 | _ :: _, _, [], _, h, _ => by cases h
mutual
theorem z8l {t : Tr zam} : ∀ (d : D) (cs : List zab), RD t d cs -> zly d.zs cs = true
 | .int k n, cs, h => by
  rw [RD] at h; subst h; show (zzcc (.int k 0) (.int k n) && true) = true
  simp only [zzcc, zab.asIntK, Bool.and_true]; exact zev.2 rfl
 | .bool _, cs, h => by rw [RD] at h; subst h; rfl
 | .str _, cs, h => by rw [RD] at h; subst h; rfl
 | .sl sz l, cs, h => by
  rw [zzc7] at h; obtain ⟨v, rfl, h⟩ := h
  show (zzcc .nilslice v && true) = true
  rw [zqe h]; rfl
 | .st l, cs, h => by
  rw [zzc6] at h; obtain ⟨cl, rfl, h⟩ := h
  show zly (D.zss l) cl.flatten = true
  exact z1q l cl h
theorem z1q {t : Tr zam} : ∀ (l : List D) (cl : List (List zab)), RDs t l cl -> zly (D.zss l) cl.flatten = true
 | [], cl, h => by rw [RDs] at h; subst h; rfl
 | d :: l, cl, h => by
  rw [RDs] at h; obtain ⟨c, r, rfl, h1, h2⟩ := h
  show zly (d.zs ++ D.zss l) (c :: r).flatten = true
  rw [List.flatten_cons]; exact zwp _ _ _ _ (z8l d c h1) (z1q l r h2)
end
theorem zag {k : IntKind} {n : Int} : intK k (.int k n) = some n := by unfold intK; simp only [zab.asIntK, zad]; rw [zev.2 rfl]; rfl
theorem zeg {b : Bool} : (zab.bool b).asBool = some b := rfl
theorem zza0 {d : Nat} {k : IntKind} {n : Int} : same d (.int k n) (.int k n) = true := by
 cases d <;> simp [same, zev, zhi]
theorem wrap_i64 {n : Int} (h1 : -9223372036854775808 <= n) (h2 : n < 9223372036854775808) : zai .i64 n = n := by
 rw [zcx]; simp only [IntKind.wrap, IntKind.bits, IntKind.signed]; simp; omega
theorem zzgr {t : Tr zam} {d : D} {cs zs : List zab} (h : RD t d cs) (hz : d.zs = zs) : z96 zs (.agg cs) = some (cellsOf cs) := by
 unfold z96; simp only [zab.asAgg, zad]; rw [<- hz, z8l d cs h]; rfl
theorem zzy {zs l : List zab} (h : zly zs l = true) : z96 zs (.agg l) = some (cellsOf l) := by
 unfold z96; simp only [zab.asAgg, zad, h]; rfl
end Go.Am
