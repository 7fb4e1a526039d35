/- -/
import Derived.Ground.SlgnProg
import Derived.Shelf.LaysM
import Derived.Shelf.SlicesE.Clone
import Derived.Shelf.Small.Bits
import Derived.Shelf.Small.Strs
import Derived.Shelf.Strconv.Itoa0
import Derived.Shelf.Strconv.Itoa1
import Derived.Shelf.Strconv.Itoa2
import Derived.Shelf.Strconv.Itoa3
import Derived.Shelf.Strings.Builder1
import Derived.Shelf.Strings.Count
import Derived.Shelf.Strings.Cut
import Derived.Shelf.Strings.RuneCount
import Derived.Shelf.Strings.Search1
import Derived.Shelf.Strings.Search2
import Derived.Shelf.Strings.Search3
import Derived.Shelf.Strings.Shaped
import Derived.Shelf.Strings.Split
import Derived.Shelf.Utf8.RuneCount
import Derived.Test.YtefajchlhjcgpaaGreatDoorProg
set_option linter.all false
noncomputable section
namespace Go.Proofs
open Go.Shelf
def Tryz.lays169_ren : Go.Shelf.Ren := ⟨fun | 169 => 44 | n => n, fun | 70 => 95 | 9 => 9 | 0 => 0 | 72 => 98 | 37 => 96 | 127 => 162 | 3 => 3 | 5 => 5 | n => n, fun | n => n⟩
def Tryz.lays169 : Go.Proofs.Lays.n169 Tryz.prog Tryz.lays169_ren := {
 mixed := by kernel_rfl
 f169 := Tryz.func44.trans (congrArg some (by kernel_rfl))
 t0 := Tryz.underlying0
 a0 := Tryz.isAgg0
 z0 := Tryz.sizeOf0
 v0 := Tryz.zeroValue0
 t3 := Tryz.underlying3
 a3 := Tryz.isAgg3
 z3 := Tryz.sizeOf3
 v3 := Tryz.zeroValue3
 t9 := Tryz.underlying9
 a9 := Tryz.isAgg9
 z9 := Tryz.sizeOf9
 v9 := Tryz.zeroValue9
 t37 := Tryz.underlying96
 a37 := Tryz.isAgg96
 z37 := Tryz.sizeOf96
 v37 := Tryz.zeroValue96
 t70 := Tryz.underlying95
 a70 := Tryz.isAgg95
 z70 := Tryz.sizeOf95
 v70 := Tryz.zeroValue95
 t72 := Tryz.underlying98
 a72 := Tryz.isAgg98
 z72 := Tryz.sizeOf98
 v72 := Tryz.zeroValue98
 t127 := Tryz.underlying162
 a127 := Tryz.isAgg162
 z127 := Tryz.sizeOf162
 v127 := Tryz.zeroValue162 }
def Tryz.Builder_Extra_169 : Builder.Extra Tryz.prog Tryz.lays169_ren := {
 sizeBuilder := by kernel_rfl
 liesBuilder := by kernel_rfl
 t5 := Tryz.underlying5
 a5 := Tryz.isAgg5
 z5 := Tryz.sizeOf5
 v5 := Tryz.zeroValue5
 infoByte := by kernel_rfl
 cellsByte := by kernel_rfl
 sizeByte := by kernel_rfl
 neB5 := by decide }
def Tryz.lays137_ren : Go.Shelf.Ren := ⟨fun | 137 => 229 | 217 => 262 | 266 => 285 | n => n, fun | 9 => 9 | 5 => 5 | 3 => 3 | n => n, fun | n => n⟩
def Tryz.lays137 : Go.Proofs.Lays.n137 Tryz.prog Tryz.lays137_ren := {
 mixed := by kernel_rfl
 f137 := Tryz.func229.trans (congrArg some (by kernel_rfl))
 f217 := Tryz.func262.trans (congrArg some (by kernel_rfl))
 f266 := Tryz.func285.trans (congrArg some (by kernel_rfl))
 t3 := Tryz.underlying3
 a3 := Tryz.isAgg3
 z3 := Tryz.sizeOf3
 v3 := Tryz.zeroValue3
 t5 := Tryz.underlying5
 a5 := Tryz.isAgg5
 z5 := Tryz.sizeOf5
 v5 := Tryz.zeroValue5
 t9 := Tryz.underlying9
 a9 := Tryz.isAgg9
 z9 := Tryz.sizeOf9
 v9 := Tryz.zeroValue9 }
open Go.RowKit in
def Tryz.strings_IndexByte (s : ByteArray) (c : Int) (w : World) :
  Calls Tryz.prog 229 #[.string s, .int .u8 c] w λe w' => e = .returned (.int .i64 (Lib.indexByte s.data.toList c.toNat.toUInt8)) /\ w' = w := Any.strings_IndexByte Tryz.lays137 s c w
def Tryz.lays283_ren : Go.Shelf.Ren := ⟨fun | 283 => 272 | n => n, fun | 3 => 3 | 9 => 9 | 4 => 4 | n => n, fun | n => n⟩
def Tryz.lays283 : Go.Proofs.Lays.n283 Tryz.prog Tryz.lays283_ren := {
 mixed := by kernel_rfl
 f283 := Tryz.func272.trans (congrArg some (by kernel_rfl))
 t3 := Tryz.underlying3
 a3 := Tryz.isAgg3
 z3 := Tryz.sizeOf3
 v3 := Tryz.zeroValue3
 t4 := Tryz.underlying4
 a4 := Tryz.isAgg4
 z4 := Tryz.sizeOf4
 v4 := Tryz.zeroValue4
 t9 := Tryz.underlying9
 a9 := Tryz.isAgg9
 z9 := Tryz.sizeOf9
 v9 := Tryz.zeroValue9 }
open Go.Lib in
def Tryz.internal_strconv_small (i : Nat) (h : i < 100) (w : World) :
  Calls Tryz.prog 272 #[.int .i64 i] w λe w' => e = .returned (.string ⟨(Lib.decDigits i).toArray⟩) /\ w' = w := Any.internal_strconv_small Tryz.lays283 i h w
def Tryz.laysM284_ren : Go.Shelf.Ren := ⟨fun | 284 => 273 | 129 => 291 | 317 => 290 | 318 => 292 | n => n, fun | 53 => 270 | 3 => 3 | 212 => 318 | 0 => 0 | 4 => 4 | 46 => 295 | 5 => 5 | 9 => 9 | n => n, fun | 17 => 5 | n => n⟩
def Tryz.laysM284 : Go.Proofs.LaysM.n284 Tryz.prog Tryz.laysM284_ren := {
 mixed := by kernel_rfl
 f129 := Tryz.func291.trans (congrArg some (by kernel_rfl))
 f284 := Tryz.func273.trans (congrArg some (by kernel_rfl))
 f317 := Tryz.func290.trans (congrArg some (by kernel_rfl))
 f318 := Tryz.func292.trans (congrArg some (by kernel_rfl))
 t0 := Tryz.underlying0
 a0 := Tryz.isAgg0
 z0 := Tryz.sizeOf0
 v0 := Tryz.zeroValue0
 t3 := Tryz.underlying3
 a3 := Tryz.isAgg3
 z3 := Tryz.sizeOf3
 v3 := Tryz.zeroValue3
 t4 := Tryz.underlying4
 a4 := Tryz.isAgg4
 z4 := Tryz.sizeOf4
 v4 := Tryz.zeroValue4
 t5 := Tryz.underlying5
 a5 := Tryz.isAgg5
 z5 := Tryz.sizeOf5
 v5 := Tryz.zeroValue5
 t9 := Tryz.underlying9
 a9 := Tryz.isAgg9
 z9 := Tryz.sizeOf9
 v9 := Tryz.zeroValue9
 t46 := Tryz.underlying295
 a46 := Tryz.isAgg295
 z46 := Tryz.sizeOf295
 v46 := Tryz.zeroValue295
 t53 := Tryz.underlying270
 a53 := Tryz.isAgg270
 z53 := Tryz.sizeOf270
 v53 := Tryz.zeroValue270
 t212 := Tryz.underlying318
 a212 := Tryz.isAgg318
 z212 := Tryz.sizeOf318
 v212 := Tryz.zeroValue318
 g17 := by kernel_rfl
 i0 := by kernel_rfl
 i3 := by kernel_rfl
 i4 := by kernel_rfl
 i5 := by kernel_rfl
 i9 := by kernel_rfl
 i46 := by kernel_rfl
 i53 := by kernel_rfl
 i212 := by kernel_rfl
 m17 := by kernel_rfl }
open Go.Lib in
def Tryz.internal_strconv_numDigits (u : Nat) (b : 1 <= u) (c : u < 18446744073709551616) (w : World) (a : Lib.TabIs Tryz.prog w "internal/strconv.uint64pow10" .u64 Lib.pow10Tab) :
  Calls Tryz.prog 273 #[.int .u64 u] w λe w' => e = .returned (.int .i64 (Lib.nDigits u)) /\ w' = w := Any.internal_strconv_numDigits Tryz.laysM284 u b c w a
def Tryz.lays285_ren : Go.Shelf.Ren := ⟨fun | 285 => 274 | n => n, fun | 37 => 96 | 53 => 270 | 3 => 3 | 4 => 4 | 51 => 254 | 9 => 9 | 5 => 5 | 0 => 0 | n => n, fun | n => n⟩
def Tryz.lays285 : Go.Proofs.Lays.n285 Tryz.prog Tryz.lays285_ren := {
 mixed := by kernel_rfl
 f285 := Tryz.func274.trans (congrArg some (by kernel_rfl))
 t0 := Tryz.underlying0
 a0 := Tryz.isAgg0
 z0 := Tryz.sizeOf0
 v0 := Tryz.zeroValue0
 t3 := Tryz.underlying3
 a3 := Tryz.isAgg3
 z3 := Tryz.sizeOf3
 v3 := Tryz.zeroValue3
 t4 := Tryz.underlying4
 a4 := Tryz.isAgg4
 z4 := Tryz.sizeOf4
 v4 := Tryz.zeroValue4
 t5 := Tryz.underlying5
 a5 := Tryz.isAgg5
 z5 := Tryz.sizeOf5
 v5 := Tryz.zeroValue5
 t9 := Tryz.underlying9
 a9 := Tryz.isAgg9
 z9 := Tryz.sizeOf9
 v9 := Tryz.zeroValue9
 t37 := Tryz.underlying96
 a37 := Tryz.isAgg96
 z37 := Tryz.sizeOf96
 v37 := Tryz.zeroValue96
 t51 := Tryz.underlying254
 a51 := Tryz.isAgg254
 z51 := Tryz.sizeOf254
 v51 := Tryz.zeroValue254
 t53 := Tryz.underlying270
 a53 := Tryz.isAgg270
 z53 := Tryz.sizeOf270
 v53 := Tryz.zeroValue270 }
open Go.RowKit Go.Sort Go.Lib in
def Tryz.internal_strconv_formatBase10 (a off cap : Nat) (u : Nat) (d : Array UInt8) (w : World) (h : Holds (λ(b : UInt8) => Value.int .u8 (b.toNat : Int)) w a off d) (i : u < 10 ^ d.size) (c : u < 18446744073709551616) (f : d.size < 4611686018427387904) :
  Calls Tryz.prog 274 #[.slice (some ⟨a, off, none⟩) d.size cap, .int .u64 u] w λe w' =>
   e = .returned (.tuple #[]) /\ ∃ (n v' : Nat) (g : Array UInt8), w' = (putRow (λ(b : UInt8) => Value.int .u8 (b.toNat : Int)) w a off g).drewN n /\ FmtInv d.size u 0 v' g := Any.internal_strconv_formatBase10 Tryz.lays285 a off cap u d w h i c f
def Tryz.laysM246_ren : Go.Shelf.Ren := ⟨fun | 246 => 245 | 283 => 272 | 284 => 273 | 285 => 274 | 286 => 275 | 129 => 291 | 317 => 290 | 318 => 292 | 319 => 293 | 320 => 294 | 337 => 305 | 338 => 306 | n => n, fun | 2 => 2 | 3 => 3 | 9 => 9 | 4 => 4 | 171 => 305 | 0 => 0 | 53 => 270 | 37 => 96 | 5 => 5 | 173 => 308 | 212 => 318 | 51 => 254 | 20 => 20 | 213 => 319 | 46 => 295 | 232 => 336 | 233 => 337 | n => n, fun | 17 => 5 | 18 => 6 | 19 => 7 | n => n⟩
def Tryz.laysM243_ren : Go.Shelf.Ren := ⟨fun | 243 => 190 | 246 => 245 | 283 => 272 | 284 => 273 | 285 => 274 | 286 => 275 | 129 => 291 | 317 => 290 | 318 => 292 | 319 => 293 | 320 => 294 | 337 => 305 | 338 => 306 | n => n, fun | 3 => 3 | 9 => 9 | 2 => 2 | 4 => 4 | 171 => 305 | 0 => 0 | 53 => 270 | 37 => 96 | 5 => 5 | 173 => 308 | 212 => 318 | 51 => 254 | 20 => 20 | 213 => 319 | 46 => 295 | 232 => 336 | 233 => 337 | n => n, fun | 17 => 5 | 18 => 6 | 19 => 7 | n => n⟩
def Tryz.laysM171_ren : Go.Shelf.Ren := ⟨fun | 171 => 137 | 243 => 190 | 246 => 245 | 283 => 272 | 284 => 273 | 285 => 274 | 286 => 275 | 129 => 291 | 317 => 290 | 318 => 292 | 319 => 293 | 320 => 294 | 337 => 305 | 338 => 306 | n => n, fun | 3 => 3 | 9 => 9 | 2 => 2 | 4 => 4 | 171 => 305 | 0 => 0 | 53 => 270 | 37 => 96 | 5 => 5 | 173 => 308 | 212 => 318 | 51 => 254 | 20 => 20 | 213 => 319 | 46 => 295 | 232 => 336 | 233 => 337 | n => n, fun | 17 => 5 | 18 => 6 | 19 => 7 | n => n⟩
def Tryz.laysM171 : Go.Proofs.LaysM.n171 Tryz.prog Tryz.laysM171_ren := {
 mixed := by kernel_rfl
 f129 := Tryz.func291.trans (congrArg some (by kernel_rfl))
 f171 := Tryz.func137.trans (congrArg some (by kernel_rfl))
 f243 := Tryz.func190.trans (congrArg some (by kernel_rfl))
 f246 := Tryz.func245.trans (congrArg some (by kernel_rfl))
 f283 := Tryz.func272.trans (congrArg some (by kernel_rfl))
 f284 := Tryz.func273.trans (congrArg some (by kernel_rfl))
 f285 := Tryz.func274.trans (congrArg some (by kernel_rfl))
 f286 := Tryz.func275.trans (congrArg some (by kernel_rfl))
 f317 := Tryz.func290.trans (congrArg some (by kernel_rfl))
 f318 := Tryz.func292.trans (congrArg some (by kernel_rfl))
 f319 := Tryz.func293.trans (congrArg some (by kernel_rfl))
 f320 := Tryz.func294.trans (congrArg some (by kernel_rfl))
 f337 := Tryz.func305.trans (congrArg some (by kernel_rfl))
 f338 := Tryz.func306.trans (congrArg some (by kernel_rfl))
 t0 := Tryz.underlying0
 a0 := Tryz.isAgg0
 z0 := Tryz.sizeOf0
 v0 := Tryz.zeroValue0
 t2 := Tryz.underlying2
 a2 := Tryz.isAgg2
 z2 := Tryz.sizeOf2
 v2 := Tryz.zeroValue2
 t3 := Tryz.underlying3
 a3 := Tryz.isAgg3
 z3 := Tryz.sizeOf3
 v3 := Tryz.zeroValue3
 t4 := Tryz.underlying4
 a4 := Tryz.isAgg4
 z4 := Tryz.sizeOf4
 v4 := Tryz.zeroValue4
 t5 := Tryz.underlying5
 a5 := Tryz.isAgg5
 z5 := Tryz.sizeOf5
 v5 := Tryz.zeroValue5
 t9 := Tryz.underlying9
 a9 := Tryz.isAgg9
 z9 := Tryz.sizeOf9
 v9 := Tryz.zeroValue9
 t20 := Tryz.underlying20
 a20 := Tryz.isAgg20
 z20 := Tryz.sizeOf20
 v20 := Tryz.zeroValue20
 t37 := Tryz.underlying96
 a37 := Tryz.isAgg96
 z37 := Tryz.sizeOf96
 v37 := Tryz.zeroValue96
 t46 := Tryz.underlying295
 a46 := Tryz.isAgg295
 z46 := Tryz.sizeOf295
 v46 := Tryz.zeroValue295
 t51 := Tryz.underlying254
 a51 := Tryz.isAgg254
 z51 := Tryz.sizeOf254
 v51 := Tryz.zeroValue254
 t53 := Tryz.underlying270
 a53 := Tryz.isAgg270
 z53 := Tryz.sizeOf270
 v53 := Tryz.zeroValue270
 t171 := Tryz.underlying305
 a171 := Tryz.isAgg305
 z171 := Tryz.sizeOf305
 v171 := Tryz.zeroValue305
 t173 := Tryz.underlying308
 a173 := Tryz.isAgg308
 z173 := Tryz.sizeOf308
 v173 := Tryz.zeroValue308
 t212 := Tryz.underlying318
 a212 := Tryz.isAgg318
 z212 := Tryz.sizeOf318
 v212 := Tryz.zeroValue318
 t213 := Tryz.underlying319
 a213 := Tryz.isAgg319
 z213 := Tryz.sizeOf319
 t232 := Tryz.underlying336
 a232 := Tryz.isAgg336
 z232 := Tryz.sizeOf336
 v232 := Tryz.zeroValue336
 t233 := Tryz.underlying337
 a233 := Tryz.isAgg337
 z233 := Tryz.sizeOf337
 v233 := Tryz.zeroValue337
 g17 := by kernel_rfl
 g18 := by kernel_rfl
 g19 := by kernel_rfl
 i0 := by kernel_rfl
 i2 := by kernel_rfl
 i3 := by kernel_rfl
 i4 := by kernel_rfl
 i5 := by kernel_rfl
 i9 := by kernel_rfl
 i20 := by kernel_rfl
 i37 := by kernel_rfl
 i46 := by kernel_rfl
 i51 := by kernel_rfl
 i53 := by kernel_rfl
 i171 := by kernel_rfl
 i173 := by kernel_rfl
 i212 := by kernel_rfl
 i232 := by kernel_rfl
 i233 := by kernel_rfl
 m17 := by kernel_rfl
 m18 := by kernel_rfl
 m19 := by kernel_rfl }
open Go.RowKit Go.Sort Go.Lib in
def Tryz.strconv_Itoa (n : Int) (b : -9223372036854775808 <= n) (c : n <= 9223372036854775807) (w : World) (a : Lib.TabIs Tryz.prog w "internal/strconv.uint64pow10" .u64 Lib.pow10Tab) :
  Calls Tryz.prog 137 #[.int .i64 n] w λe w' => e = .returned (.string ⟨(Lib.itoa n).toArray⟩) /\ ∃ k os, w' = grow (w.drewN k) os := Any.strconv_Itoa Tryz.laysM171 n b c w a
def Tryz.lays217_ren : Go.Shelf.Ren := ⟨fun | 217 => 262 | 266 => 285 | n => n, fun | 9 => 9 | 5 => 5 | 3 => 3 | n => n, fun | n => n⟩
def Tryz.lays217 : Go.Proofs.Lays.n217 Tryz.prog Tryz.lays217_ren := {
 mixed := by kernel_rfl
 f217 := Tryz.func262.trans (congrArg some (by kernel_rfl))
 f266 := Tryz.func285.trans (congrArg some (by kernel_rfl))
 t3 := Tryz.underlying3
 a3 := Tryz.isAgg3
 z3 := Tryz.sizeOf3
 v3 := Tryz.zeroValue3
 t5 := Tryz.underlying5
 a5 := Tryz.isAgg5
 z5 := Tryz.sizeOf5
 v5 := Tryz.zeroValue5
 t9 := Tryz.underlying9
 a9 := Tryz.isAgg9
 z9 := Tryz.sizeOf9
 v9 := Tryz.zeroValue9 }
open Go.RowKit Go.Lib in
def Tryz.stringslite_IndexByte (s : ByteArray) (c : Int) (w : World) :
  Calls Tryz.prog 262 #[.string s, .int .u8 c] w λe w' => e = .returned (.int .i64 (Lib.indexByte s.data.toList c.toNat.toUInt8)) /\ w' = w := Any.stringslite_IndexByte Tryz.lays217 s c w
def Tryz.lays219_ren : Go.Shelf.Ren := ⟨fun | 219 => 230 | 217 => 262 | 225 => 263 | 224 => 264 | 267 => 265 | 266 => 285 | 314 => 286 | n => n, fun | 9 => 9 | 3 => 3 | 4 => 4 | 5 => 5 | 46 => 295 | 146 => 301 | 51 => 254 | n => n, fun | 1 => 2 | n => n⟩
def Tryz.lays144_ren : Go.Shelf.Ren := ⟨fun | 144 => 143 | 143 => 179 | 219 => 230 | 217 => 262 | 225 => 263 | 224 => 264 | 267 => 265 | 266 => 285 | 314 => 286 | n => n, fun | 9 => 9 | 4 => 4 | 3 => 3 | 5 => 5 | 46 => 295 | 146 => 301 | 51 => 254 | n => n, fun | 1 => 2 | n => n⟩
def Tryz.lays144 : Go.Proofs.Lays.n144 Tryz.prog Tryz.lays144_ren := {
 mixed := by kernel_rfl
 f143 := Tryz.func179.trans (congrArg some (by kernel_rfl))
 f144 := Tryz.func143.trans (congrArg some (by kernel_rfl))
 f217 := Tryz.func262.trans (congrArg some (by kernel_rfl))
 f219 := Tryz.func230.trans (congrArg some (by kernel_rfl))
 f224 := Tryz.func264.trans (congrArg some (by kernel_rfl))
 f225 := Tryz.func263.trans (congrArg some (by kernel_rfl))
 f266 := Tryz.func285.trans (congrArg some (by kernel_rfl))
 f267 := Tryz.func265.trans (congrArg some (by kernel_rfl))
 f314 := Tryz.func286.trans (congrArg some (by kernel_rfl))
 t3 := Tryz.underlying3
 a3 := Tryz.isAgg3
 z3 := Tryz.sizeOf3
 v3 := Tryz.zeroValue3
 t4 := Tryz.underlying4
 a4 := Tryz.isAgg4
 z4 := Tryz.sizeOf4
 v4 := Tryz.zeroValue4
 t5 := Tryz.underlying5
 a5 := Tryz.isAgg5
 z5 := Tryz.sizeOf5
 v5 := Tryz.zeroValue5
 t9 := Tryz.underlying9
 a9 := Tryz.isAgg9
 z9 := Tryz.sizeOf9
 v9 := Tryz.zeroValue9
 t46 := Tryz.underlying295
 a46 := Tryz.isAgg295
 z46 := Tryz.sizeOf295
 v46 := Tryz.zeroValue295
 t51 := Tryz.underlying254
 a51 := Tryz.isAgg254
 z51 := Tryz.sizeOf254
 v51 := Tryz.zeroValue254
 t146 := Tryz.underlying301
 a146 := Tryz.isAgg301
 z146 := Tryz.sizeOf301
 v146 := Tryz.zeroValue301
 g1 := by kernel_rfl }
open Go.RowKit Go.Lib in
def Tryz.strings_Contains (s a : ByteArray) (m : Int) (w : World) (c : s.size < 4294967281) (b : w.cell? ⟨2, 0, none⟩ = some (.int .i64 m)) :
  Calls Tryz.prog 143 #[.string s, .string a] w λe w' => e = .returned (.bool (Lib.contains s.data.toList a.data.toList)) /\ w' = w := Any.strings_Contains Tryz.lays144 s a m w c b
def Tryz.lays145_ren : Go.Shelf.Ren := ⟨fun | 145 => 139 | 220 => 193 | 219 => 230 | 217 => 262 | 225 => 263 | 224 => 264 | 267 => 265 | 266 => 285 | 314 => 286 | n => n, fun | 9 => 9 | 4 => 4 | 59 => 213 | 3 => 3 | 5 => 5 | 46 => 295 | 146 => 301 | 51 => 254 | n => n, fun | 1 => 2 | n => n⟩
def Tryz.lays145 : Go.Proofs.Lays.n145 Tryz.prog Tryz.lays145_ren := {
 mixed := by kernel_rfl
 f145 := Tryz.func139.trans (congrArg some (by kernel_rfl))
 f217 := Tryz.func262.trans (congrArg some (by kernel_rfl))
 f219 := Tryz.func230.trans (congrArg some (by kernel_rfl))
 f220 := Tryz.func193.trans (congrArg some (by kernel_rfl))
 f224 := Tryz.func264.trans (congrArg some (by kernel_rfl))
 f225 := Tryz.func263.trans (congrArg some (by kernel_rfl))
 f266 := Tryz.func285.trans (congrArg some (by kernel_rfl))
 f267 := Tryz.func265.trans (congrArg some (by kernel_rfl))
 f314 := Tryz.func286.trans (congrArg some (by kernel_rfl))
 t3 := Tryz.underlying3
 a3 := Tryz.isAgg3
 z3 := Tryz.sizeOf3
 v3 := Tryz.zeroValue3
 t4 := Tryz.underlying4
 a4 := Tryz.isAgg4
 z4 := Tryz.sizeOf4
 v4 := Tryz.zeroValue4
 t5 := Tryz.underlying5
 a5 := Tryz.isAgg5
 z5 := Tryz.sizeOf5
 v5 := Tryz.zeroValue5
 t9 := Tryz.underlying9
 a9 := Tryz.isAgg9
 z9 := Tryz.sizeOf9
 v9 := Tryz.zeroValue9
 t46 := Tryz.underlying295
 a46 := Tryz.isAgg295
 z46 := Tryz.sizeOf295
 v46 := Tryz.zeroValue295
 t51 := Tryz.underlying254
 a51 := Tryz.isAgg254
 z51 := Tryz.sizeOf254
 v51 := Tryz.zeroValue254
 t59 := Tryz.underlying213
 a59 := Tryz.isAgg213
 z59 := Tryz.sizeOf213
 v59 := Tryz.zeroValue213
 t146 := Tryz.underlying301
 a146 := Tryz.isAgg301
 z146 := Tryz.sizeOf301
 v146 := Tryz.zeroValue301
 g1 := by kernel_rfl }
open Go.RowKit Go.Lib in
def Tryz.strings_Cut (s a : ByteArray) (m : Int) (w : World) (c : s.size < 4294967281) (b : w.cell? ⟨2, 0, none⟩ = some (.int .i64 m)) :
  Calls Tryz.prog 139 #[.string s, .string a] w λe w' => e = .returned (.tuple #[.string ⟨(Lib.cut s.data.toList a.data.toList).1.toArray⟩, .string ⟨(Lib.cut s.data.toList a.data.toList).2.1.toArray⟩, .bool (Lib.cut s.data.toList a.data.toList).2.2]) /\ ∃ n, w' = w.drewN n := Any.strings_Cut Tryz.lays145 s a m w c b
def Tryz.lays138_ren : Go.Shelf.Ren := ⟨fun | 138 => 126 | 195 => 177 | 218 => 178 | 143 => 179 | 219 => 230 | 217 => 262 | 225 => 263 | 224 => 264 | 267 => 265 | 266 => 285 | 314 => 286 | n => n, fun | 9 => 9 | 3 => 3 | 4 => 4 | 5 => 5 | 0 => 0 | 46 => 295 | 146 => 301 | 51 => 254 | n => n, fun | 1 => 2 | n => n⟩
def Tryz.lays138 : Go.Proofs.Lays.n138 Tryz.prog Tryz.lays138_ren := {
 mixed := by kernel_rfl
 f138 := Tryz.func126.trans (congrArg some (by kernel_rfl))
 f143 := Tryz.func179.trans (congrArg some (by kernel_rfl))
 f195 := Tryz.func177.trans (congrArg some (by kernel_rfl))
 f217 := Tryz.func262.trans (congrArg some (by kernel_rfl))
 f218 := Tryz.func178.trans (congrArg some (by kernel_rfl))
 f219 := Tryz.func230.trans (congrArg some (by kernel_rfl))
 f224 := Tryz.func264.trans (congrArg some (by kernel_rfl))
 f225 := Tryz.func263.trans (congrArg some (by kernel_rfl))
 f266 := Tryz.func285.trans (congrArg some (by kernel_rfl))
 f267 := Tryz.func265.trans (congrArg some (by kernel_rfl))
 f314 := Tryz.func286.trans (congrArg some (by kernel_rfl))
 t0 := Tryz.underlying0
 a0 := Tryz.isAgg0
 z0 := Tryz.sizeOf0
 v0 := Tryz.zeroValue0
 t3 := Tryz.underlying3
 a3 := Tryz.isAgg3
 z3 := Tryz.sizeOf3
 v3 := Tryz.zeroValue3
 t4 := Tryz.underlying4
 a4 := Tryz.isAgg4
 z4 := Tryz.sizeOf4
 v4 := Tryz.zeroValue4
 t5 := Tryz.underlying5
 a5 := Tryz.isAgg5
 z5 := Tryz.sizeOf5
 v5 := Tryz.zeroValue5
 t9 := Tryz.underlying9
 a9 := Tryz.isAgg9
 z9 := Tryz.sizeOf9
 v9 := Tryz.zeroValue9
 t46 := Tryz.underlying295
 a46 := Tryz.isAgg295
 z46 := Tryz.sizeOf295
 v46 := Tryz.zeroValue295
 t51 := Tryz.underlying254
 a51 := Tryz.isAgg254
 z51 := Tryz.sizeOf254
 v51 := Tryz.zeroValue254
 t146 := Tryz.underlying301
 a146 := Tryz.isAgg301
 z146 := Tryz.sizeOf301
 v146 := Tryz.zeroValue301
 g1 := by kernel_rfl }
open Go.RowKit Go.Lib in
def Tryz.strings_Count_one (s : ByteArray) (c : UInt8) (w : World) :
  Calls Tryz.prog 126 #[.string s, .string ⟨#[c]⟩] w λe w' => e = .returned (.int .i64 (Lib.countByte s.data.toList c)) /\ w' = w := Any.strings_Count_one Tryz.lays138 s c w
def Tryz.laysM144_ren : Go.Shelf.Ren := ⟨fun | 144 => 143 | 143 => 179 | 219 => 230 | 217 => 262 | 225 => 263 | 224 => 264 | 267 => 265 | 266 => 285 | 314 => 286 | n => n, fun | 9 => 9 | 4 => 4 | 3 => 3 | 5 => 5 | 46 => 295 | 146 => 301 | 51 => 254 | n => n, fun | 1 => 2 | n => n⟩
def Tryz.laysM144 : Go.Proofs.LaysM.n144 Tryz.prog Tryz.laysM144_ren := {
 mixed := by kernel_rfl
 f143 := Tryz.func179.trans (congrArg some (by kernel_rfl))
 f144 := Tryz.func143.trans (congrArg some (by kernel_rfl))
 f217 := Tryz.func262.trans (congrArg some (by kernel_rfl))
 f219 := Tryz.func230.trans (congrArg some (by kernel_rfl))
 f224 := Tryz.func264.trans (congrArg some (by kernel_rfl))
 f225 := Tryz.func263.trans (congrArg some (by kernel_rfl))
 f266 := Tryz.func285.trans (congrArg some (by kernel_rfl))
 f267 := Tryz.func265.trans (congrArg some (by kernel_rfl))
 f314 := Tryz.func286.trans (congrArg some (by kernel_rfl))
 t3 := Tryz.underlying3
 a3 := Tryz.isAgg3
 z3 := Tryz.sizeOf3
 v3 := Tryz.zeroValue3
 t4 := Tryz.underlying4
 a4 := Tryz.isAgg4
 z4 := Tryz.sizeOf4
 v4 := Tryz.zeroValue4
 t5 := Tryz.underlying5
 a5 := Tryz.isAgg5
 z5 := Tryz.sizeOf5
 v5 := Tryz.zeroValue5
 t9 := Tryz.underlying9
 a9 := Tryz.isAgg9
 z9 := Tryz.sizeOf9
 v9 := Tryz.zeroValue9
 t46 := Tryz.underlying295
 a46 := Tryz.isAgg295
 z46 := Tryz.sizeOf295
 v46 := Tryz.zeroValue295
 t51 := Tryz.underlying254
 a51 := Tryz.isAgg254
 z51 := Tryz.sizeOf254
 v51 := Tryz.zeroValue254
 t146 := Tryz.underlying301
 a146 := Tryz.isAgg301
 z146 := Tryz.sizeOf301
 v146 := Tryz.zeroValue301
 g1 := by kernel_rfl
 i3 := by kernel_rfl
 i4 := by kernel_rfl
 i5 := by kernel_rfl
 i9 := by kernel_rfl
 i46 := by kernel_rfl
 i51 := by kernel_rfl
 i146 := by kernel_rfl
 m1 := by kernel_rfl
 s1_3 := λw h => Go.Proofs.cell_of_shapedOpen_int (zero := #[.int .i64 0]) (t := 3) h (of_decide_eq_true (by kernel_rfl)) (by kernel_rfl) rfl (by kernel_rfl) (by kernel_rfl) Tryz.underlying3 }
end Go.Proofs
