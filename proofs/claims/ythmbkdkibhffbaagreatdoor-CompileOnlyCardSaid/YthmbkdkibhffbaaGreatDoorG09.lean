/- -/
import Derived.Ground.Names2Prog
import Derived.Ground.SlgnProg
import Derived.Shelf.LaysM
import Derived.Shelf.Slices.SearchI
import Derived.Shelf.SlicesE.Clone
import Derived.Shelf.Small.Bits
import Derived.Shelf.Strconv.Itoa0
import Derived.Shelf.Strconv.Itoa1
import Derived.Shelf.Strconv.Itoa2
import Derived.Shelf.Strconv.Itoa3
import Derived.Shelf.Strings.Builder1
import Derived.Shelf.Strings.Cut
import Derived.Shelf.Strings.Search1
import Derived.Shelf.Strings.Search2
import Derived.Shelf.Strings.Search3
import Derived.Shelf.Strings.Shaped
import Derived.Test.YthmbkdkibhffbaaGreatDoorProg
set_option linter.all false
noncomputable section
namespace Go.Proofs
open Go.Shelf
def Tryz.laysM246_ren : Go.Shelf.Ren := ⟨fun | 246 => 355 | 283 => 365 | 284 => 366 | 285 => 367 | 286 => 368 | 129 => 372 | 317 => 371 | 318 => 373 | 319 => 374 | 320 => 375 | 337 => 380 | 338 => 381 | n => n, fun | 2 => 2 | 3 => 3 | 9 => 9 | 4 => 4 | 171 => 358 | 0 => 0 | 53 => 56 | 37 => 188 | 5 => 5 | 173 => 361 | 212 => 365 | 51 => 328 | 20 => 20 | 213 => 366 | 46 => 292 | 232 => 371 | 233 => 372 | n => n, fun | 17 => 5 | 18 => 6 | 19 => 7 | n => n⟩
def Tryz.laysM243_ren : Go.Shelf.Ren := ⟨fun | 243 => 329 | 246 => 355 | 283 => 365 | 284 => 366 | 285 => 367 | 286 => 368 | 129 => 372 | 317 => 371 | 318 => 373 | 319 => 374 | 320 => 375 | 337 => 380 | 338 => 381 | n => n, fun | 3 => 3 | 9 => 9 | 2 => 2 | 4 => 4 | 171 => 358 | 0 => 0 | 53 => 56 | 37 => 188 | 5 => 5 | 173 => 361 | 212 => 365 | 51 => 328 | 20 => 20 | 213 => 366 | 46 => 292 | 232 => 371 | 233 => 372 | n => n, fun | 17 => 5 | 18 => 6 | 19 => 7 | n => n⟩
def Tryz.laysM171_ren : Go.Shelf.Ren := ⟨fun | 171 => 291 | 243 => 329 | 246 => 355 | 283 => 365 | 284 => 366 | 285 => 367 | 286 => 368 | 129 => 372 | 317 => 371 | 318 => 373 | 319 => 374 | 320 => 375 | 337 => 380 | 338 => 381 | n => n, fun | 3 => 3 | 9 => 9 | 2 => 2 | 4 => 4 | 171 => 358 | 0 => 0 | 53 => 56 | 37 => 188 | 5 => 5 | 173 => 361 | 212 => 365 | 51 => 328 | 20 => 20 | 213 => 366 | 46 => 292 | 232 => 371 | 233 => 372 | n => n, fun | 17 => 5 | 18 => 6 | 19 => 7 | n => n⟩
theorem Tryz.laysM171 : Go.Proofs.LaysM.n171 Tryz.prog Tryz.laysM171_ren := {
 mixed := by kernel_rfl
 f129 := Tryz.func372.trans (congrArg some (by kernel_rfl))
 f171 := Tryz.func291.trans (congrArg some (by kernel_rfl))
 f243 := Tryz.func329.trans (congrArg some (by kernel_rfl))
 f246 := Tryz.func355.trans (congrArg some (by kernel_rfl))
 f283 := Tryz.func365.trans (congrArg some (by kernel_rfl))
 f284 := Tryz.func366.trans (congrArg some (by kernel_rfl))
 f285 := Tryz.func367.trans (congrArg some (by kernel_rfl))
 f286 := Tryz.func368.trans (congrArg some (by kernel_rfl))
 f317 := Tryz.func371.trans (congrArg some (by kernel_rfl))
 f318 := Tryz.func373.trans (congrArg some (by kernel_rfl))
 f319 := Tryz.func374.trans (congrArg some (by kernel_rfl))
 f320 := Tryz.func375.trans (congrArg some (by kernel_rfl))
 f337 := Tryz.func380.trans (congrArg some (by kernel_rfl))
 f338 := Tryz.func381.trans (congrArg some (by kernel_rfl))
 t0 := Tryz.underlying0
 a0 := Tryz.isAgg0
 z0 := Tryz.sizeOf0
 v0 := Tryz.zeroValue0
 t2 := Tryz.underlying2
 a2 := Tryz.isAgg2
 z2 := Tryz.sizeOf2
 v2 := Tryz.zeroValue2
 t3 := Tryz.underlying3
 a3 := Tryz.isAgg3
 z3 := Tryz.sizeOf3
 v3 := Tryz.zeroValue3
 t4 := Tryz.underlying4
 a4 := Tryz.isAgg4
 z4 := Tryz.sizeOf4
 v4 := Tryz.zeroValue4
 t5 := Tryz.underlying5
 a5 := Tryz.isAgg5
 z5 := Tryz.sizeOf5
 v5 := Tryz.zeroValue5
 t9 := Tryz.underlying9
 a9 := Tryz.isAgg9
 z9 := Tryz.sizeOf9
 v9 := Tryz.zeroValue9
 t20 := Tryz.underlying20
 a20 := Tryz.isAgg20
 z20 := Tryz.sizeOf20
 v20 := Tryz.zeroValue20
 t37 := Tryz.underlying188
 a37 := Tryz.isAgg188
 z37 := Tryz.sizeOf188
 v37 := Tryz.zeroValue188
 t46 := Tryz.underlying292
 a46 := Tryz.isAgg292
 z46 := Tryz.sizeOf292
 v46 := Tryz.zeroValue292
 t51 := Tryz.underlying328
 a51 := Tryz.isAgg328
 z51 := Tryz.sizeOf328
 v51 := Tryz.zeroValue328
 t53 := Tryz.underlying56
 a53 := Tryz.isAgg56
 z53 := Tryz.sizeOf56
 v53 := Tryz.zeroValue56
 t171 := Tryz.underlying358
 a171 := Tryz.isAgg358
 z171 := Tryz.sizeOf358
 v171 := Tryz.zeroValue358
 t173 := Tryz.underlying361
 a173 := Tryz.isAgg361
 z173 := Tryz.sizeOf361
 v173 := Tryz.zeroValue361
 t212 := Tryz.underlying365
 a212 := Tryz.isAgg365
 z212 := Tryz.sizeOf365
 v212 := Tryz.zeroValue365
 t213 := Tryz.underlying366
 a213 := Tryz.isAgg366
 z213 := Tryz.sizeOf366
 t232 := Tryz.underlying371
 a232 := Tryz.isAgg371
 z232 := Tryz.sizeOf371
 v232 := Tryz.zeroValue371
 t233 := Tryz.underlying372
 a233 := Tryz.isAgg372
 z233 := Tryz.sizeOf372
 v233 := Tryz.zeroValue372
 g17 := by kernel_rfl
 g18 := by kernel_rfl
 g19 := by kernel_rfl
 i0 := by kernel_rfl
 i2 := by kernel_rfl
 i3 := by kernel_rfl
 i4 := by kernel_rfl
 i5 := by kernel_rfl
 i9 := by kernel_rfl
 i20 := by kernel_rfl
 i37 := by kernel_rfl
 i46 := by kernel_rfl
 i51 := by kernel_rfl
 i53 := by kernel_rfl
 i171 := by kernel_rfl
 i173 := by kernel_rfl
 i212 := by kernel_rfl
 i232 := by kernel_rfl
 i233 := by kernel_rfl
 m17 := by kernel_rfl
 m18 := by kernel_rfl
 m19 := by kernel_rfl }
open Go.RowKit Go.Sort Go.Lib in
theorem Tryz.strconv_Itoa (n : Int) (h0 : -9223372036854775808 <= n) (h1 : n <= 9223372036854775807) (w : World) (htab : Lib.TabIs Tryz.prog w "internal/strconv.uint64pow10" .u64 Lib.pow10Tab) :
  Calls Tryz.prog 291 #[.int .i64 n] w fun e w' => e = .returned (.string ⟨(Lib.itoa n).toArray⟩) /\ ∃ k os, w' = grow (w.drewN k) os := Any.strconv_Itoa Tryz.laysM171 n h0 h1 w htab
def Tryz.lays217_ren : Go.Shelf.Ren := ⟨fun | 217 => 343 | 266 => 363 | n => n, fun | 9 => 9 | 5 => 5 | 3 => 3 | n => n, fun | n => n⟩
theorem Tryz.lays217 : Go.Proofs.Lays.n217 Tryz.prog Tryz.lays217_ren := {
 mixed := by kernel_rfl
 f217 := Tryz.func343.trans (congrArg some (by kernel_rfl))
 f266 := Tryz.func363.trans (congrArg some (by kernel_rfl))
 t3 := Tryz.underlying3
 a3 := Tryz.isAgg3
 z3 := Tryz.sizeOf3
 v3 := Tryz.zeroValue3
 t5 := Tryz.underlying5
 a5 := Tryz.isAgg5
 z5 := Tryz.sizeOf5
 v5 := Tryz.zeroValue5
 t9 := Tryz.underlying9
 a9 := Tryz.isAgg9
 z9 := Tryz.sizeOf9
 v9 := Tryz.zeroValue9 }
open Go.RowKit Go.Lib in
theorem Tryz.stringslite_IndexByte (s : ByteArray) (c : Int) (w : World) :
  Calls Tryz.prog 343 #[.string s, .int .u8 c] w fun e w' => e = .returned (.int .i64 (Lib.indexByte s.data.toList c.toNat.toUInt8)) /\ w' = w := Any.stringslite_IndexByte Tryz.lays217 s c w
def Tryz.lays219_ren : Go.Shelf.Ren := ⟨fun | 219 => 320 | 217 => 343 | 225 => 344 | 224 => 345 | 267 => 346 | 266 => 363 | 314 => 364 | n => n, fun | 9 => 9 | 3 => 3 | 4 => 4 | 5 => 5 | 46 => 292 | 146 => 350 | 51 => 328 | n => n, fun | 1 => 2 | n => n⟩
def Tryz.lays144_ren : Go.Shelf.Ren := ⟨fun | 144 => 242 | 143 => 283 | 219 => 320 | 217 => 343 | 225 => 344 | 224 => 345 | 267 => 346 | 266 => 363 | 314 => 364 | n => n, fun | 9 => 9 | 4 => 4 | 3 => 3 | 5 => 5 | 46 => 292 | 146 => 350 | 51 => 328 | n => n, fun | 1 => 2 | n => n⟩
theorem Tryz.lays144 : Go.Proofs.Lays.n144 Tryz.prog Tryz.lays144_ren := {
 mixed := by kernel_rfl
 f143 := Tryz.func283.trans (congrArg some (by kernel_rfl))
 f144 := Tryz.func242.trans (congrArg some (by kernel_rfl))
 f217 := Tryz.func343.trans (congrArg some (by kernel_rfl))
 f219 := Tryz.func320.trans (congrArg some (by kernel_rfl))
 f224 := Tryz.func345.trans (congrArg some (by kernel_rfl))
 f225 := Tryz.func344.trans (congrArg some (by kernel_rfl))
 f266 := Tryz.func363.trans (congrArg some (by kernel_rfl))
 f267 := Tryz.func346.trans (congrArg some (by kernel_rfl))
 f314 := Tryz.func364.trans (congrArg some (by kernel_rfl))
 t3 := Tryz.underlying3
 a3 := Tryz.isAgg3
 z3 := Tryz.sizeOf3
 v3 := Tryz.zeroValue3
 t4 := Tryz.underlying4
 a4 := Tryz.isAgg4
 z4 := Tryz.sizeOf4
 v4 := Tryz.zeroValue4
 t5 := Tryz.underlying5
 a5 := Tryz.isAgg5
 z5 := Tryz.sizeOf5
 v5 := Tryz.zeroValue5
 t9 := Tryz.underlying9
 a9 := Tryz.isAgg9
 z9 := Tryz.sizeOf9
 v9 := Tryz.zeroValue9
 t46 := Tryz.underlying292
 a46 := Tryz.isAgg292
 z46 := Tryz.sizeOf292
 v46 := Tryz.zeroValue292
 t51 := Tryz.underlying328
 a51 := Tryz.isAgg328
 z51 := Tryz.sizeOf328
 v51 := Tryz.zeroValue328
 t146 := Tryz.underlying350
 a146 := Tryz.isAgg350
 z146 := Tryz.sizeOf350
 v146 := Tryz.zeroValue350
 g1 := by kernel_rfl }
open Go.RowKit Go.Lib in
theorem Tryz.strings_Contains (s sub : ByteArray) (m : Int) (w : World) (hs : s.size < 4294967281) (hm : w.cell? ⟨2, 0, none⟩ = some (.int .i64 m)) :
  Calls Tryz.prog 242 #[.string s, .string sub] w fun e w' => e = .returned (.bool (Lib.contains s.data.toList sub.data.toList)) /\ w' = w := Any.strings_Contains Tryz.lays144 s sub m w hs hm
def Tryz.lays145_ren : Go.Shelf.Ren := ⟨fun | 145 => 238 | 220 => 282 | 219 => 320 | 217 => 343 | 225 => 344 | 224 => 345 | 267 => 346 | 266 => 363 | 314 => 364 | n => n, fun | 9 => 9 | 4 => 4 | 59 => 274 | 3 => 3 | 5 => 5 | 46 => 292 | 146 => 350 | 51 => 328 | n => n, fun | 1 => 2 | n => n⟩
theorem Tryz.lays145 : Go.Proofs.Lays.n145 Tryz.prog Tryz.lays145_ren := {
 mixed := by kernel_rfl
 f145 := Tryz.func238.trans (congrArg some (by kernel_rfl))
 f217 := Tryz.func343.trans (congrArg some (by kernel_rfl))
 f219 := Tryz.func320.trans (congrArg some (by kernel_rfl))
 f220 := Tryz.func282.trans (congrArg some (by kernel_rfl))
 f224 := Tryz.func345.trans (congrArg some (by kernel_rfl))
 f225 := Tryz.func344.trans (congrArg some (by kernel_rfl))
 f266 := Tryz.func363.trans (congrArg some (by kernel_rfl))
 f267 := Tryz.func346.trans (congrArg some (by kernel_rfl))
 f314 := Tryz.func364.trans (congrArg some (by kernel_rfl))
 t3 := Tryz.underlying3
 a3 := Tryz.isAgg3
 z3 := Tryz.sizeOf3
 v3 := Tryz.zeroValue3
 t4 := Tryz.underlying4
 a4 := Tryz.isAgg4
 z4 := Tryz.sizeOf4
 v4 := Tryz.zeroValue4
 t5 := Tryz.underlying5
 a5 := Tryz.isAgg5
 z5 := Tryz.sizeOf5
 v5 := Tryz.zeroValue5
 t9 := Tryz.underlying9
 a9 := Tryz.isAgg9
 z9 := Tryz.sizeOf9
 v9 := Tryz.zeroValue9
 t46 := Tryz.underlying292
 a46 := Tryz.isAgg292
 z46 := Tryz.sizeOf292
 v46 := Tryz.zeroValue292
 t51 := Tryz.underlying328
 a51 := Tryz.isAgg328
 z51 := Tryz.sizeOf328
 v51 := Tryz.zeroValue328
 t59 := Tryz.underlying274
 a59 := Tryz.isAgg274
 z59 := Tryz.sizeOf274
 v59 := Tryz.zeroValue274
 t146 := Tryz.underlying350
 a146 := Tryz.isAgg350
 z146 := Tryz.sizeOf350
 v146 := Tryz.zeroValue350
 g1 := by kernel_rfl }
open Go.RowKit Go.Lib in
theorem Tryz.strings_Cut (s sep : ByteArray) (m : Int) (w : World) (hs : s.size < 4294967281) (hm : w.cell? ⟨2, 0, none⟩ = some (.int .i64 m)) :
  Calls Tryz.prog 238 #[.string s, .string sep] w fun e w' => e = .returned (.tuple #[.string ⟨(Lib.cut s.data.toList sep.data.toList).1.toArray⟩, .string ⟨(Lib.cut s.data.toList sep.data.toList).2.1.toArray⟩, .bool (Lib.cut s.data.toList sep.data.toList).2.2]) /\ ∃ n, w' = w.drewN n := Any.strings_Cut Tryz.lays145 s sep m w hs hm
def Tryz.laysM144_ren : Go.Shelf.Ren := ⟨fun | 144 => 242 | 143 => 283 | 219 => 320 | 217 => 343 | 225 => 344 | 224 => 345 | 267 => 346 | 266 => 363 | 314 => 364 | n => n, fun | 9 => 9 | 4 => 4 | 3 => 3 | 5 => 5 | 46 => 292 | 146 => 350 | 51 => 328 | n => n, fun | 1 => 2 | n => n⟩
theorem Tryz.laysM144 : Go.Proofs.LaysM.n144 Tryz.prog Tryz.laysM144_ren := {
 mixed := by kernel_rfl
 f143 := Tryz.func283.trans (congrArg some (by kernel_rfl))
 f144 := Tryz.func242.trans (congrArg some (by kernel_rfl))
 f217 := Tryz.func343.trans (congrArg some (by kernel_rfl))
 f219 := Tryz.func320.trans (congrArg some (by kernel_rfl))
 f224 := Tryz.func345.trans (congrArg some (by kernel_rfl))
 f225 := Tryz.func344.trans (congrArg some (by kernel_rfl))
 f266 := Tryz.func363.trans (congrArg some (by kernel_rfl))
 f267 := Tryz.func346.trans (congrArg some (by kernel_rfl))
 f314 := Tryz.func364.trans (congrArg some (by kernel_rfl))
 t3 := Tryz.underlying3
 a3 := Tryz.isAgg3
 z3 := Tryz.sizeOf3
 v3 := Tryz.zeroValue3
 t4 := Tryz.underlying4
 a4 := Tryz.isAgg4
 z4 := Tryz.sizeOf4
 v4 := Tryz.zeroValue4
 t5 := Tryz.underlying5
 a5 := Tryz.isAgg5
 z5 := Tryz.sizeOf5
 v5 := Tryz.zeroValue5
 t9 := Tryz.underlying9
 a9 := Tryz.isAgg9
 z9 := Tryz.sizeOf9
 v9 := Tryz.zeroValue9
 t46 := Tryz.underlying292
 a46 := Tryz.isAgg292
 z46 := Tryz.sizeOf292
 v46 := Tryz.zeroValue292
 t51 := Tryz.underlying328
 a51 := Tryz.isAgg328
 z51 := Tryz.sizeOf328
 v51 := Tryz.zeroValue328
 t146 := Tryz.underlying350
 a146 := Tryz.isAgg350
 z146 := Tryz.sizeOf350
 v146 := Tryz.zeroValue350
 g1 := by kernel_rfl
 i3 := by kernel_rfl
 i4 := by kernel_rfl
 i5 := by kernel_rfl
 i9 := by kernel_rfl
 i46 := by kernel_rfl
 i51 := by kernel_rfl
 i146 := by kernel_rfl
 m1 := by kernel_rfl
 s1_3 := fun w h => Go.Proofs.cell_of_shapedOpen_int (zero := #[.int .i64 0]) (t := 3) h (of_decide_eq_true (by kernel_rfl)) (by kernel_rfl) rfl (by kernel_rfl) (by kernel_rfl) Tryz.underlying3 }
end Go.Proofs
