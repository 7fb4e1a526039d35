/- The functions of this seat with their points. (Printed by a tool.) -/
import Derived.KernelRfl
import Derived.Test.YthmbkdkibhffbaaGreatDoorC11
set_option linter.all false
noncomputable section
set_option maxRecDepth 100000
namespace Go.Proofs
open Go Go.Am
variable [zcf]
def bd (f : Func) : Code := match f.body with | some b => b | none => .skip
def b7 := bd Tryz.f7
def a7 : zcs := ⟨zbs [(15, ⟨31, [5, 6, 7, 8], [(3, 8)]⟩)] [(0, ⟨2, [5, 6, 7], [(3, 8)]⟩), (2, ⟨6, [5, 6, 7, 8, 9], [(3, 8)]⟩), (5, ⟨12, [5, 6, 11], [(3, 8)]⟩), (7, ⟨16, [5, 6, 11, 12], [(3, 8)]⟩), (9, ⟨20, [5, 6, 13], [(3, 8)]⟩), (11, ⟨24, [5, 6, 13, 14], [(3, 8)]⟩)] 0 b7, [1, 3]⟩
def b13 := bd Tryz.f13
def a13 : zcs := ⟨zbs [] [(0, ⟨2, [1, 5, 6], [(2, 4)]⟩), (2, ⟨6, [1, 5, 7], [(2, 4)]⟩), (4, ⟨10, [1, 5, 7, 8], [(2, 4)]⟩), (6, ⟨14, [1, 5, 9], [(2, 4)]⟩)] 0 b13, [2, 10]⟩
def b22 := bd Tryz.f22
def a22 : zcs := ⟨zbs [] [(0, ⟨2, [4, 19, 20, 21], [(2, 8)]⟩)] 0 b22, [1, 2, 6]⟩
def b24 := bd Tryz.f24
def a24 : zcs := ⟨zbs [] [] 0 b24, [2, 3]⟩
def b25 := bd Tryz.f25
def a25 : zcs := ⟨zbs [] [] 0 b25, [1]⟩
def b33 := bd Tryz.f33
def a33 : zcs := ⟨zbs [] [(0, ⟨2, [24, 25, 26], [(1, 4)]⟩), (2, ⟨6, [42, 43, 44], []⟩)] 0 b33, [1, 4, 6]⟩
def b36 := bd Tryz.f36
def a36 : zcs := ⟨zbs [] [] 0 b36, [1]⟩
def b37 := bd Tryz.f37
def a37 : zcs := ⟨zbs [] [(0, ⟨2, [1, 5, 6], [(2, 9)]⟩)] 0 b37, [2]⟩
def b51 := bd Tryz.f51
def a51 : zcs := ⟨zbs [] [(0, ⟨2, [18, 19, 20], [(1, 4), (2, 4)]⟩), (2, ⟨6, [3, 5, 18, 19, 20, 28, 29, 30], [(1, 4), (2, 4)]⟩), (4, ⟨10, [58, 59], [(1, 4), (2, 4)]⟩)] 0 b51, [1, 2, 4, 7]⟩
def b52 := bd Tryz.f52
def a52 : zcs := ⟨zbs [] [] 0 b52, [3]⟩
def b53 := bd Tryz.f53
def a53 : zcs := ⟨zbs [] [] 0 b53, [2, 3]⟩
def b54 := bd Tryz.f54
def a54 : zcs := ⟨zbs [] [] 0 b54, [1]⟩
def b63 := bd Tryz.f63
def a63 : zcs := ⟨zbs [] [] 0 b63, [1]⟩
def b64 := bd Tryz.f64
def a64 : zcs := ⟨zbs [] [] 0 b64, []⟩
def b99 := bd Tryz.f99
def a99 : zcs := ⟨zbs [] [] 0 b99, []⟩
def b100 := bd Tryz.f100
def a100 : zcs := ⟨zbs [] [] 0 b100, []⟩
def b101 := bd Tryz.f101
def a101 : zcs := ⟨zbs [] [] 0 b101, []⟩
def b102 := bd Tryz.f102
def a102 : zcs := ⟨zbs [] [] 0 b102, [1, 2]⟩
def b103 := bd Tryz.f103
def a103 : zcs := ⟨zbs [] [] 0 b103, []⟩
def b104 := bd Tryz.f104
def a104 : zcs := ⟨zbs [] [(1, ⟨4, [0, 61, 62, 63], [(3, 9)]⟩)] 0 b104, [3, 7]⟩
def b105 := bd Tryz.f105
def a105 : zcs := ⟨zbs [] [] 0 b105, [2, 3]⟩
def b106 := bd Tryz.f106
def a106 : zcs := ⟨zbs [] [] 0 b106, [1]⟩
def b116 := bd Tryz.f116
def a116 : zcs := ⟨zbs [] [(0, ⟨2, [1, 3, 18, 19, 20], []⟩)] 0 b116, [4, 8]⟩
def b117 := bd Tryz.f117
def a117 : zcs := ⟨zbs [] [(0, ⟨2, [0, 1, 5], []⟩)] 0 b117, []⟩
def b118 := bd Tryz.f118
def a118 : zcs := ⟨zbs [] [] 0 b118, [2, 3]⟩
def b119 := bd Tryz.f119
def a119 : zcs := ⟨zbs [] [] 0 b119, []⟩
def b120 := bd Tryz.f120
def a120 : zcs := ⟨zbs [] [] 0 b120, [2]⟩
def b121 := bd Tryz.f121
def a121 : zcs := ⟨zbs [] [(0, ⟨2, [0, 11, 12], [(3, 7)]⟩)] 0 b121, [3]⟩
def b167 := bd Tryz.f167
def a167 : zcs := ⟨zbs [] [] 0 b167, [1]⟩
def b168 := bd Tryz.f168
def a168 : zcs := ⟨zbs [] [] 0 b168, []⟩
def b169 := bd Tryz.f169
def a169 : zcs := ⟨zbs [] [] 0 b169, [5, 7]⟩
def b170 := bd Tryz.f170
def a170 : zcs := ⟨zbs [] [] 0 b170, [3]⟩
def b171 := bd Tryz.f171
def a171 : zcs := ⟨zbs [] [(0, ⟨2, [0, 1, 12, 13], []⟩)] 0 b171, []⟩
def b172 := bd Tryz.f172
def a172 : zcs := ⟨zbs [] [] 0 b172, [1]⟩
def b173 := bd Tryz.f173
def a173 : zcs := ⟨zbs [] [] 0 b173, [1]⟩
def b174 := bd Tryz.f174
def a174 : zcs := ⟨zbs [] [] 0 b174, [1]⟩
def b175 := bd Tryz.f175
def a175 : zcs := ⟨zbs [] [] 0 b175, [1]⟩
def b176 := bd Tryz.f176
def a176 : zcs := ⟨zbs [] [] 0 b176, [2, 3, 4, 5]⟩
def b181 := bd Tryz.f181
def a181 : zcs := ⟨zbs [] [] 0 b181, []⟩
def b183 := bd Tryz.f183
def a183 : zcs := ⟨zbs [] [(0, ⟨2, [3, 6, 7, 8], []⟩)] 0 b183, []⟩
def b184 := bd Tryz.f184
def a184 : zcs := ⟨zbs [] [] 0 b184, []⟩
def b185 := bd Tryz.f185
def a185 : zcs := ⟨zbs [] [(0, ⟨2, [0, 1, 7, 8], []⟩)] 0 b185, []⟩
def b232 := bd Tryz.f232
def a232 : zcs := ⟨zbs [] [] 0 b232, []⟩
def b233 := bd Tryz.f233
def a233 : zcs := ⟨zbs [] [] 0 b233, [3]⟩
def b234 := bd Tryz.f234
def a234 : zcs := ⟨zbs [] [] 0 b234, []⟩
def b235 := bd Tryz.f235
def a235 : zcs := ⟨zbs [] [] 0 b235, [2, 3, 4]⟩
def b240 := bd Tryz.f240
def a240 : zcs := ⟨zbs [] [] 0 b240, []⟩
def b246 := bd Tryz.f246
def a246 : zcs := ⟨zbs [] [] 0 b246, []⟩
def b275 := bd Tryz.f275
def a275 : zcs := ⟨zbs [] [] 0 b275, [7]⟩
def b276 := bd Tryz.f276
def a276 : zcs := ⟨zbs [] [(0, ⟨2, [3, 24, 25], []⟩), (2, ⟨6, [3, 6, 24, 25, 35, 36, 37], [(5, 2)]⟩)] 0 b276, [1, 5]⟩
def b277 := bd Tryz.f277
def a277 : zcs := ⟨zbs [] [] 0 b277, []⟩
def b278 := bd Tryz.f278
def a278 : zcs := ⟨zbs [] [(0, ⟨2, [5, 6, 7], []⟩)] 0 b278, [4]⟩
def b279 := bd Tryz.f279
def a279 : zcs := ⟨zbs [] [(0, ⟨2, [0, 5, 18, 19, 20], [(4, 2)]⟩)] 0 b279, [4]⟩
def b280 := bd Tryz.f280
def a280 : zcs := ⟨zbs [(16, ⟨33, [0, 1], []⟩)] [(0, ⟨2, [0, 1], []⟩), (2, ⟨6, [10, 11], []⟩)] 0 b280, [5]⟩
def b281 := bd Tryz.f281
def a281 : zcs := ⟨zbs [] [(0, ⟨2, [3, 11, 12, 13], []⟩)] 0 b281, []⟩
def b287 := bd Tryz.f287
def a287 : zcs := ⟨zbs [] [] 0 b287, []⟩
def b313 := bd Tryz.f313
def a313 : zcs := ⟨zbs [] [(0, ⟨2, [0], []⟩)] 0 b313, []⟩
def b314 := bd Tryz.f314
def a314 : zcs := ⟨zbs [] [(0, ⟨2, [0, 1, 5], []⟩)] 0 b314, []⟩
def b315 := bd Tryz.f315
def a315 : zcs := ⟨zbs [] [(0, ⟨2, [7, 8, 10, 11], [(4, 5), (9, 5)]⟩)] 0 b315, [4, 9]⟩
def b316 := bd Tryz.f316
def a316 : zcs := ⟨zbs [] [(0, ⟨2, [8, 9, 10, 11, 12, 13], []⟩), (2, ⟨6, [8, 9, 11, 12, 77, 78], []⟩)] 0 b316, []⟩
def b317 := bd Tryz.f317
def a317 : zcs := ⟨zbs [(8, ⟨17, [0, 1, 2, 3, 9, 10, 11, 12, 13, 22, 23], []⟩), (10, ⟨21, [0, 1, 2, 3, 9, 10, 11, 12, 13, 22, 23], []⟩)] [(0, ⟨2, [0, 1, 2, 3, 9, 10, 11, 12, 22, 23], []⟩)] 0 b317, []⟩
def b319 := bd Tryz.f319
def a319 : zcs := ⟨zbs [] [] 0 b319, []⟩
def b321 := bd Tryz.f321
def a321 : zcs := ⟨zbs [] [(0, ⟨2, [0, 1, 6, 7, 8], []⟩)] 0 b321, []⟩
def b337 := bd Tryz.f337
def a337 : zcs := ⟨zbs [] [] 0 b337, []⟩
def b338 := bd Tryz.f338
def a338 : zcs := ⟨zbs [] [] 0 b338, []⟩
def b339 := bd Tryz.f339
def a339 : zcs := ⟨zbs [] [] 0 b339, []⟩
def b340 := bd Tryz.f340
def a340 : zcs := ⟨zbs [] [(0, ⟨2, [1, 5, 13, 14, 15], []⟩)] 0 b340, []⟩
def b341 := bd Tryz.f341
def a341 : zcs := ⟨zbs [(9, ⟨19, [0, 1, 5, 8], []⟩)] [(0, ⟨2, [0, 1, 5, 7, 8, 9], []⟩), (2, ⟨6, [0, 1, 5, 8, 10, 11, 76, 77, 78], []⟩), (4, ⟨10, [0, 5, 8, 17, 129, 130, 131], []⟩)] 0 b341, []⟩
def b342 := bd Tryz.f342
def a342 : zcs := ⟨zbs [] [] 0 b342, []⟩
def b347 := bd Tryz.f347
def a347 : zcs := ⟨zbs [(3, ⟨7, [0, 1, 2], []⟩)] [] 0 b347, []⟩
def b360 := bd Tryz.f360
def a360 : zcs := ⟨zbs [(4, ⟨9, [0, 2], []⟩), (7, ⟨15, [0, 2], []⟩)] [] 0 b360, []⟩
def b361 := bd Tryz.f361
def a361 : zcs := ⟨zbs [] [] 0 b361, []⟩
def b362 := bd Tryz.f362
def a362 : zcs := ⟨zbs [] [] 0 b362, []⟩
def FL : List (Nat × zcs) := [(7, a7), (13, a13), (22, a22), (24, a24), (25, a25), (33, a33), (36, a36), (37, a37), (51, a51), (52, a52), (53, a53), (54, a54), (63, a63), (64, a64), (99, a99), (100, a100), (101, a101), (102, a102), (103, a103), (104, a104), (105, a105), (106, a106), (116, a116), (117, a117), (118, a118), (119, a119), (120, a120), (121, a121), (167, a167), (168, a168), (169, a169), (170, a170), (171, a171), (172, a172), (173, a173), (174, a174), (175, a175), (176, a176), (181, a181), (183, a183), (184, a184), (185, a185), (232, a232), (233, a233), (234, a234), (235, a235), (240, a240), (246, a246), (275, a275), (276, a276), (277, a277), (278, a278), (279, a279), (280, a280), (281, a281), (287, a287), (313, a313), (314, a314), (315, a315), (316, a316), (317, a317), (319, a319), (321, a321), (337, a337), (338, a338), (339, a339), (340, a340), (341, a341), (342, a342), (347, a347), (360, a360), (361, a361), (362, a362)]
def F : Tr zcs := tabF FL
def za2 (f : Nat) : Bool := zcx f [13, 23, 24, 25, 31, 33, 36, 37, 53, 54, 63, 64, 105, 106, 117, 118, 119, 120, 121, 167, 171, 172, 173, 174, 175, 181, 183, 184, 185, 240, 246, 276, 278, 313, 314, 337, 338, 342, 347, 360, 361, 362, 14, 318, 238, 291]
abbrev wp (f : Nat) (T : T) (m : Tr zal) (Q : zaw) : Prop := wpT C19.base (Wq C19 F za2) (Jq C19 F f) T m Q
abbrev Wf (f : Nat) (a : List zab) (m : Tr zal) (Q : zaw) : Prop := Wc C19 F f a m Q
abbrev jp (f i : Nat) (a : List zab) (m : Tr zal) (Q : zaw) : Prop := Jq C19 F f i a m Q
abbrev pv (f : Nat) (a : List zab) (m : Tr zal) : Option zab := pvC C19 F f a m
theorem ok7 : zdz C19 F 7 Tryz.f7 80 a7 := by constructor <;> kernel_rfl
theorem ok13 : zdz C19 F 13 Tryz.f13 11 a13 := by constructor <;> kernel_rfl
theorem ok22 : zdz C19 F 22 Tryz.f22 22 a22 := by constructor <;> kernel_rfl
theorem ok24 : zdz C19 F 24 Tryz.f24 5 a24 := by constructor <;> kernel_rfl
theorem ok25 : zdz C19 F 25 Tryz.f25 49 a25 := by constructor <;> kernel_rfl
theorem ok33 : zdz C19 F 33 Tryz.f33 45 a33 := by constructor <;> kernel_rfl
theorem ok36 : zdz C19 F 36 Tryz.f36 3 a36 := by constructor <;> kernel_rfl
theorem ok37 : zdz C19 F 37 Tryz.f37 7 a37 := by constructor <;> kernel_rfl
theorem ok51 : zdz C19 F 51 Tryz.f51 60 a51 := by constructor <;> kernel_rfl
theorem ok52 : zdz C19 F 52 Tryz.f52 5 a52 := by constructor <;> kernel_rfl
theorem ok53 : zdz C19 F 53 Tryz.f53 5 a53 := by constructor <;> kernel_rfl
theorem ok54 : zdz C19 F 54 Tryz.f54 3 a54 := by constructor <;> kernel_rfl
theorem ok63 : zdz C19 F 63 Tryz.f63 5 a63 := by constructor <;> kernel_rfl
theorem ok64 : zdz C19 F 64 Tryz.f64 3 a64 := by constructor <;> kernel_rfl
theorem ok99 : zdz C19 F 99 Tryz.f99 3 a99 := by constructor <;> kernel_rfl
theorem ok100 : zdz C19 F 100 Tryz.f100 3 a100 := by constructor <;> kernel_rfl
theorem ok101 : zdz C19 F 101 Tryz.f101 3 a101 := by constructor <;> kernel_rfl
theorem ok102 : zdz C19 F 102 Tryz.f102 3 a102 := by constructor <;> kernel_rfl
theorem ok103 : zdz C19 F 103 Tryz.f103 3 a103 := by constructor <;> kernel_rfl
theorem ok104 : zdz C19 F 104 Tryz.f104 64 a104 := by constructor <;> kernel_rfl
theorem ok105 : zdz C19 F 105 Tryz.f105 5 a105 := by constructor <;> kernel_rfl
theorem ok106 : zdz C19 F 106 Tryz.f106 3 a106 := by constructor <;> kernel_rfl
theorem ok116 : zdz C19 F 116 Tryz.f116 21 a116 := by constructor <;> kernel_rfl
theorem ok117 : zdz C19 F 117 Tryz.f117 6 a117 := by constructor <;> kernel_rfl
theorem ok118 : zdz C19 F 118 Tryz.f118 5 a118 := by constructor <;> kernel_rfl
theorem ok119 : zdz C19 F 119 Tryz.f119 5 a119 := by constructor <;> kernel_rfl
theorem ok120 : zdz C19 F 120 Tryz.f120 4 a120 := by constructor <;> kernel_rfl
theorem ok121 : zdz C19 F 121 Tryz.f121 13 a121 := by constructor <;> kernel_rfl
theorem ok167 : zdz C19 F 167 Tryz.f167 5 a167 := by constructor <;> kernel_rfl
theorem ok168 : zdz C19 F 168 Tryz.f168 10 a168 := by constructor <;> kernel_rfl
theorem ok169 : zdz C19 F 169 Tryz.f169 10 a169 := by constructor <;> kernel_rfl
theorem ok170 : zdz C19 F 170 Tryz.f170 72 a170 := by constructor <;> kernel_rfl
theorem ok171 : zdz C19 F 171 Tryz.f171 14 a171 := by constructor <;> kernel_rfl
theorem ok172 : zdz C19 F 172 Tryz.f172 3 a172 := by constructor <;> kernel_rfl
theorem ok173 : zdz C19 F 173 Tryz.f173 4 a173 := by constructor <;> kernel_rfl
theorem ok174 : zdz C19 F 174 Tryz.f174 3 a174 := by constructor <;> kernel_rfl
theorem ok175 : zdz C19 F 175 Tryz.f175 3 a175 := by constructor <;> kernel_rfl
theorem ok176 : zdz C19 F 176 Tryz.f176 7 a176 := by constructor <;> kernel_rfl
theorem ok181 : zdz C19 F 181 Tryz.f181 19 a181 := by constructor <;> kernel_rfl
theorem ok183 : zdz C19 F 183 Tryz.f183 9 a183 := by constructor <;> kernel_rfl
theorem ok184 : zdz C19 F 184 Tryz.f184 7 a184 := by constructor <;> kernel_rfl
theorem ok185 : zdz C19 F 185 Tryz.f185 9 a185 := by constructor <;> kernel_rfl
theorem ok232 : zdz C19 F 232 Tryz.f232 3 a232 := by constructor <;> kernel_rfl
theorem ok233 : zdz C19 F 233 Tryz.f233 6 a233 := by constructor <;> kernel_rfl
theorem ok234 : zdz C19 F 234 Tryz.f234 6 a234 := by constructor <;> kernel_rfl
theorem ok235 : zdz C19 F 235 Tryz.f235 6 a235 := by constructor <;> kernel_rfl
theorem ok240 : zdz C19 F 240 Tryz.f240 3 a240 := by constructor <;> kernel_rfl
theorem ok246 : zdz C19 F 246 Tryz.f246 3 a246 := by constructor <;> kernel_rfl
theorem ok275 : zdz C19 F 275 Tryz.f275 12 a275 := by constructor <;> kernel_rfl
theorem zzg2 : zdz C19 F 276 Tryz.f276 38 a276 := by constructor <;> kernel_rfl
theorem ok277 : zdz C19 F 277 Tryz.f277 12 a277 := by constructor <;> kernel_rfl
theorem ok278 : zdz C19 F 278 Tryz.f278 8 a278 := by constructor <;> kernel_rfl
theorem ok279 : zdz C19 F 279 Tryz.f279 21 a279 := by constructor <;> kernel_rfl
theorem zzcc : zdz C19 F 280 Tryz.f280 12 a280 := by constructor <;> kernel_rfl
theorem ok281 : zdz C19 F 281 Tryz.f281 14 a281 := by constructor <;> kernel_rfl
theorem ok287 : zdz C19 F 287 Tryz.f287 3 a287 := by constructor <;> kernel_rfl
theorem ok313 : zdz C19 F 313 Tryz.f313 3 a313 := by constructor <;> kernel_rfl
theorem ok314 : zdz C19 F 314 Tryz.f314 6 a314 := by constructor <;> kernel_rfl
theorem ok315 : zdz C19 F 315 Tryz.f315 14 a315 := by constructor <;> kernel_rfl
theorem zzg1 : zdz C19 F 316 Tryz.f316 79 a316 := by constructor <;> kernel_rfl
theorem zzcb : zdz C19 F 317 Tryz.f317 24 a317 := by constructor <;> kernel_rfl
theorem ok319 : zdz C19 F 319 Tryz.f319 3 a319 := by constructor <;> kernel_rfl
theorem ok321 : zdz C19 F 321 Tryz.f321 9 a321 := by constructor <;> kernel_rfl
theorem ok337 : zdz C19 F 337 Tryz.f337 3 a337 := by constructor <;> kernel_rfl
theorem ok338 : zdz C19 F 338 Tryz.f338 8 a338 := by constructor <;> kernel_rfl
theorem ok339 : zdz C19 F 339 Tryz.f339 3 a339 := by constructor <;> kernel_rfl
theorem ok340 : zdz C19 F 340 Tryz.f340 16 a340 := by constructor <;> kernel_rfl
theorem z7m : zdz C19 F 341 Tryz.f341 132 a341 := by constructor <;> kernel_rfl
theorem ok342 : zdz C19 F 342 Tryz.f342 8 a342 := by constructor <;> kernel_rfl
theorem ok347 : zdz C19 F 347 Tryz.f347 9 a347 := by constructor <;> kernel_rfl
theorem zzg0 : zdz C19 F 360 Tryz.f360 3 a360 := by constructor <;> kernel_rfl
theorem ok361 : zdz C19 F 361 Tryz.f361 4 a361 := by constructor <;> kernel_rfl
theorem ok362 : zdz C19 F 362 Tryz.f362 9 a362 := by constructor <;> kernel_rfl
theorem q13 {a : List zab} {m : Tr zal} {R : zaw} : Wq C19 F za2 13 a m R = zed (pvC C19 F 13 a m) (fun v => R v m) := if_pos (by kernel_rfl)
theorem q22 {a : List zab} {m : Tr zal} {R : zaw} : Wq C19 F za2 22 a m R = Wc C19 F 22 a m R := if_neg (by rw [show za2 22 = false by kernel_rfl]; simp)
theorem q24 {a : List zab} {m : Tr zal} {R : zaw} : Wq C19 F za2 24 a m R = zed (pvC C19 F 24 a m) (fun v => R v m) := if_pos (by kernel_rfl)
theorem q25 {a : List zab} {m : Tr zal} {R : zaw} : Wq C19 F za2 25 a m R = zed (pvC C19 F 25 a m) (fun v => R v m) := if_pos (by kernel_rfl)
theorem q33 {a : List zab} {m : Tr zal} {R : zaw} : Wq C19 F za2 33 a m R = zed (pvC C19 F 33 a m) (fun v => R v m) := if_pos (by kernel_rfl)
theorem q36 {a : List zab} {m : Tr zal} {R : zaw} : Wq C19 F za2 36 a m R = zed (pvC C19 F 36 a m) (fun v => R v m) := if_pos (by kernel_rfl)
theorem q37 {a : List zab} {m : Tr zal} {R : zaw} : Wq C19 F za2 37 a m R = zed (pvC C19 F 37 a m) (fun v => R v m) := if_pos (by kernel_rfl)
theorem q51 {a : List zab} {m : Tr zal} {R : zaw} : Wq C19 F za2 51 a m R = Wc C19 F 51 a m R := if_neg (by rw [show za2 51 = false by kernel_rfl]; simp)
theorem q52 {a : List zab} {m : Tr zal} {R : zaw} : Wq C19 F za2 52 a m R = Wc C19 F 52 a m R := if_neg (by rw [show za2 52 = false by kernel_rfl]; simp)
theorem q53 {a : List zab} {m : Tr zal} {R : zaw} : Wq C19 F za2 53 a m R = zed (pvC C19 F 53 a m) (fun v => R v m) := if_pos (by kernel_rfl)
theorem q54 {a : List zab} {m : Tr zal} {R : zaw} : Wq C19 F za2 54 a m R = zed (pvC C19 F 54 a m) (fun v => R v m) := if_pos (by kernel_rfl)
theorem q63 {a : List zab} {m : Tr zal} {R : zaw} : Wq C19 F za2 63 a m R = zed (pvC C19 F 63 a m) (fun v => R v m) := if_pos (by kernel_rfl)
theorem q64 {a : List zab} {m : Tr zal} {R : zaw} : Wq C19 F za2 64 a m R = zed (pvC C19 F 64 a m) (fun v => R v m) := if_pos (by kernel_rfl)
theorem q99 {a : List zab} {m : Tr zal} {R : zaw} : Wq C19 F za2 99 a m R = Wc C19 F 99 a m R := if_neg (by rw [show za2 99 = false by kernel_rfl]; simp)
theorem q100 {a : List zab} {m : Tr zal} {R : zaw} : Wq C19 F za2 100 a m R = Wc C19 F 100 a m R := if_neg (by rw [show za2 100 = false by kernel_rfl]; simp)
theorem q101 {a : List zab} {m : Tr zal} {R : zaw} : Wq C19 F za2 101 a m R = Wc C19 F 101 a m R := if_neg (by rw [show za2 101 = false by kernel_rfl]; simp)
theorem q102 {a : List zab} {m : Tr zal} {R : zaw} : Wq C19 F za2 102 a m R = Wc C19 F 102 a m R := if_neg (by rw [show za2 102 = false by kernel_rfl]; simp)
theorem q103 {a : List zab} {m : Tr zal} {R : zaw} : Wq C19 F za2 103 a m R = Wc C19 F 103 a m R := if_neg (by rw [show za2 103 = false by kernel_rfl]; simp)
theorem zzgv {a : List zab} {m : Tr zal} {R : zaw} : Wq C19 F za2 104 a m R = Wc C19 F 104 a m R := if_neg (by rw [show za2 104 = false by kernel_rfl]; simp)
theorem q105 {a : List zab} {m : Tr zal} {R : zaw} : Wq C19 F za2 105 a m R = zed (pvC C19 F 105 a m) (fun v => R v m) := if_pos (by kernel_rfl)
theorem q106 {a : List zab} {m : Tr zal} {R : zaw} : Wq C19 F za2 106 a m R = zed (pvC C19 F 106 a m) (fun v => R v m) := if_pos (by kernel_rfl)
theorem q116 {a : List zab} {m : Tr zal} {R : zaw} : Wq C19 F za2 116 a m R = Wc C19 F 116 a m R := if_neg (by rw [show za2 116 = false by kernel_rfl]; simp)
theorem q117 {a : List zab} {m : Tr zal} {R : zaw} : Wq C19 F za2 117 a m R = zed (pvC C19 F 117 a m) (fun v => R v m) := if_pos (by kernel_rfl)
theorem q118 {a : List zab} {m : Tr zal} {R : zaw} : Wq C19 F za2 118 a m R = zed (pvC C19 F 118 a m) (fun v => R v m) := if_pos (by kernel_rfl)
theorem q119 {a : List zab} {m : Tr zal} {R : zaw} : Wq C19 F za2 119 a m R = zed (pvC C19 F 119 a m) (fun v => R v m) := if_pos (by kernel_rfl)
theorem q120 {a : List zab} {m : Tr zal} {R : zaw} : Wq C19 F za2 120 a m R = zed (pvC C19 F 120 a m) (fun v => R v m) := if_pos (by kernel_rfl)
theorem q121 {a : List zab} {m : Tr zal} {R : zaw} : Wq C19 F za2 121 a m R = zed (pvC C19 F 121 a m) (fun v => R v m) := if_pos (by kernel_rfl)
theorem q167 {a : List zab} {m : Tr zal} {R : zaw} : Wq C19 F za2 167 a m R = zed (pvC C19 F 167 a m) (fun v => R v m) := if_pos (by kernel_rfl)
theorem zzer {a : List zab} {m : Tr zal} {R : zaw} : Wq C19 F za2 168 a m R = Wc C19 F 168 a m R := if_neg (by rw [show za2 168 = false by kernel_rfl]; simp)
theorem q169 {a : List zab} {m : Tr zal} {R : zaw} : Wq C19 F za2 169 a m R = Wc C19 F 169 a m R := if_neg (by rw [show za2 169 = false by kernel_rfl]; simp)
theorem q170 {a : List zab} {m : Tr zal} {R : zaw} : Wq C19 F za2 170 a m R = Wc C19 F 170 a m R := if_neg (by rw [show za2 170 = false by kernel_rfl]; simp)
theorem q171 {a : List zab} {m : Tr zal} {R : zaw} : Wq C19 F za2 171 a m R = zed (pvC C19 F 171 a m) (fun v => R v m) := if_pos (by kernel_rfl)
theorem q172 {a : List zab} {m : Tr zal} {R : zaw} : Wq C19 F za2 172 a m R = zed (pvC C19 F 172 a m) (fun v => R v m) := if_pos (by kernel_rfl)
theorem q173 {a : List zab} {m : Tr zal} {R : zaw} : Wq C19 F za2 173 a m R = zed (pvC C19 F 173 a m) (fun v => R v m) := if_pos (by kernel_rfl)
theorem q174 {a : List zab} {m : Tr zal} {R : zaw} : Wq C19 F za2 174 a m R = zed (pvC C19 F 174 a m) (fun v => R v m) := if_pos (by kernel_rfl)
theorem q175 {a : List zab} {m : Tr zal} {R : zaw} : Wq C19 F za2 175 a m R = zed (pvC C19 F 175 a m) (fun v => R v m) := if_pos (by kernel_rfl)
theorem q176 {a : List zab} {m : Tr zal} {R : zaw} : Wq C19 F za2 176 a m R = Wc C19 F 176 a m R := if_neg (by rw [show za2 176 = false by kernel_rfl]; simp)
theorem q181 {a : List zab} {m : Tr zal} {R : zaw} : Wq C19 F za2 181 a m R = zed (pvC C19 F 181 a m) (fun v => R v m) := if_pos (by kernel_rfl)
theorem q183 {a : List zab} {m : Tr zal} {R : zaw} : Wq C19 F za2 183 a m R = zed (pvC C19 F 183 a m) (fun v => R v m) := if_pos (by kernel_rfl)
theorem q184 {a : List zab} {m : Tr zal} {R : zaw} : Wq C19 F za2 184 a m R = zed (pvC C19 F 184 a m) (fun v => R v m) := if_pos (by kernel_rfl)
theorem q185 {a : List zab} {m : Tr zal} {R : zaw} : Wq C19 F za2 185 a m R = zed (pvC C19 F 185 a m) (fun v => R v m) := if_pos (by kernel_rfl)
theorem q232 {a : List zab} {m : Tr zal} {R : zaw} : Wq C19 F za2 232 a m R = Wc C19 F 232 a m R := if_neg (by rw [show za2 232 = false by kernel_rfl]; simp)
theorem q233 {a : List zab} {m : Tr zal} {R : zaw} : Wq C19 F za2 233 a m R = Wc C19 F 233 a m R := if_neg (by rw [show za2 233 = false by kernel_rfl]; simp)
theorem q234 {a : List zab} {m : Tr zal} {R : zaw} : Wq C19 F za2 234 a m R = Wc C19 F 234 a m R := if_neg (by rw [show za2 234 = false by kernel_rfl]; simp)
theorem q235 {a : List zab} {m : Tr zal} {R : zaw} : Wq C19 F za2 235 a m R = Wc C19 F 235 a m R := if_neg (by rw [show za2 235 = false by kernel_rfl]; simp)
theorem q240 {a : List zab} {m : Tr zal} {R : zaw} : Wq C19 F za2 240 a m R = zed (pvC C19 F 240 a m) (fun v => R v m) := if_pos (by kernel_rfl)
theorem q246 {a : List zab} {m : Tr zal} {R : zaw} : Wq C19 F za2 246 a m R = zed (pvC C19 F 246 a m) (fun v => R v m) := if_pos (by kernel_rfl)
theorem q275 {a : List zab} {m : Tr zal} {R : zaw} : Wq C19 F za2 275 a m R = Wc C19 F 275 a m R := if_neg (by rw [show za2 275 = false by kernel_rfl]; simp)
theorem q276 {a : List zab} {m : Tr zal} {R : zaw} : Wq C19 F za2 276 a m R = zed (pvC C19 F 276 a m) (fun v => R v m) := if_pos (by kernel_rfl)
theorem q277 {a : List zab} {m : Tr zal} {R : zaw} : Wq C19 F za2 277 a m R = Wc C19 F 277 a m R := if_neg (by rw [show za2 277 = false by kernel_rfl]; simp)
theorem q278 {a : List zab} {m : Tr zal} {R : zaw} : Wq C19 F za2 278 a m R = zed (pvC C19 F 278 a m) (fun v => R v m) := if_pos (by kernel_rfl)
theorem q279 {a : List zab} {m : Tr zal} {R : zaw} : Wq C19 F za2 279 a m R = Wc C19 F 279 a m R := if_neg (by rw [show za2 279 = false by kernel_rfl]; simp)
theorem q280 {a : List zab} {m : Tr zal} {R : zaw} : Wq C19 F za2 280 a m R = Wc C19 F 280 a m R := if_neg (by rw [show za2 280 = false by kernel_rfl]; simp)
theorem q281 {a : List zab} {m : Tr zal} {R : zaw} : Wq C19 F za2 281 a m R = Wc C19 F 281 a m R := if_neg (by rw [show za2 281 = false by kernel_rfl]; simp)
theorem q287 {a : List zab} {m : Tr zal} {R : zaw} : Wq C19 F za2 287 a m R = Wc C19 F 287 a m R := if_neg (by rw [show za2 287 = false by kernel_rfl]; simp)
theorem q313 {a : List zab} {m : Tr zal} {R : zaw} : Wq C19 F za2 313 a m R = zed (pvC C19 F 313 a m) (fun v => R v m) := if_pos (by kernel_rfl)
theorem q314 {a : List zab} {m : Tr zal} {R : zaw} : Wq C19 F za2 314 a m R = zed (pvC C19 F 314 a m) (fun v => R v m) := if_pos (by kernel_rfl)
theorem q315 {a : List zab} {m : Tr zal} {R : zaw} : Wq C19 F za2 315 a m R = Wc C19 F 315 a m R := if_neg (by rw [show za2 315 = false by kernel_rfl]; simp)
theorem q316 {a : List zab} {m : Tr zal} {R : zaw} : Wq C19 F za2 316 a m R = Wc C19 F 316 a m R := if_neg (by rw [show za2 316 = false by kernel_rfl]; simp)
theorem q317 {a : List zab} {m : Tr zal} {R : zaw} : Wq C19 F za2 317 a m R = Wc C19 F 317 a m R := if_neg (by rw [show za2 317 = false by kernel_rfl]; simp)
theorem q319 {a : List zab} {m : Tr zal} {R : zaw} : Wq C19 F za2 319 a m R = Wc C19 F 319 a m R := if_neg (by rw [show za2 319 = false by kernel_rfl]; simp)
theorem q321 {a : List zab} {m : Tr zal} {R : zaw} : Wq C19 F za2 321 a m R = Wc C19 F 321 a m R := if_neg (by rw [show za2 321 = false by kernel_rfl]; simp)
theorem q337 {a : List zab} {m : Tr zal} {R : zaw} : Wq C19 F za2 337 a m R = zed (pvC C19 F 337 a m) (fun v => R v m) := if_pos (by kernel_rfl)
theorem q338 {a : List zab} {m : Tr zal} {R : zaw} : Wq C19 F za2 338 a m R = zed (pvC C19 F 338 a m) (fun v => R v m) := if_pos (by kernel_rfl)
theorem q339 {a : List zab} {m : Tr zal} {R : zaw} : Wq C19 F za2 339 a m R = Wc C19 F 339 a m R := if_neg (by rw [show za2 339 = false by kernel_rfl]; simp)
theorem q340 {a : List zab} {m : Tr zal} {R : zaw} : Wq C19 F za2 340 a m R = Wc C19 F 340 a m R := if_neg (by rw [show za2 340 = false by kernel_rfl]; simp)
theorem q341 {a : List zab} {m : Tr zal} {R : zaw} : Wq C19 F za2 341 a m R = Wc C19 F 341 a m R := if_neg (by rw [show za2 341 = false by kernel_rfl]; simp)
theorem q342 {a : List zab} {m : Tr zal} {R : zaw} : Wq C19 F za2 342 a m R = zed (pvC C19 F 342 a m) (fun v => R v m) := if_pos (by kernel_rfl)
theorem q347 {a : List zab} {m : Tr zal} {R : zaw} : Wq C19 F za2 347 a m R = zed (pvC C19 F 347 a m) (fun v => R v m) := if_pos (by kernel_rfl)
theorem q360 {a : List zab} {m : Tr zal} {R : zaw} : Wq C19 F za2 360 a m R = zed (pvC C19 F 360 a m) (fun v => R v m) := if_pos (by kernel_rfl)
theorem q361 {a : List zab} {m : Tr zal} {R : zaw} : Wq C19 F za2 361 a m R = zed (pvC C19 F 361 a m) (fun v => R v m) := if_pos (by kernel_rfl)
theorem q362 {a : List zab} {m : Tr zal} {R : zaw} : Wq C19 F za2 362 a m R = zed (pvC C19 F 362 a m) (fun v => R v m) := if_pos (by kernel_rfl)
theorem q14 {a : List zab} {m : Tr zal} {R : zaw} : Wq C19 F za2 14 a m R = zed (pvC C19 F 14 a m) (fun v => R v m) := if_pos (by kernel_rfl)
theorem q318 {a : List zab} {m : Tr zal} {R : zaw} : Wq C19 F za2 318 a m R = zed (pvC C19 F 318 a m) (fun v => R v m) := if_pos (by kernel_rfl)
theorem q238 {a : List zab} {m : Tr zal} {R : zaw} : Wq C19 F za2 238 a m R = zed (pvC C19 F 238 a m) (fun v => R v m) := if_pos (by kernel_rfl)
theorem q291 {a : List zab} {m : Tr zal} {R : zaw} : Wq C19 F za2 291 a m R = zed (pvC C19 F 291 a m) (fun v => R v m) := if_pos (by kernel_rfl)
theorem zzih : zl4 C19 (zho F) := z38 (by
 simp only [FL, List.forall_mem_cons]; exact ⟨za6 (fn := Tryz.f7) (c := b7) (by kernel_rfl) (by kernel_rfl) (by kernel_rfl), za6 (fn := Tryz.f13) (c := b13) (by kernel_rfl) (by kernel_rfl) (by kernel_rfl), za6 (fn := Tryz.f22) (c := b22) (by kernel_rfl) (by kernel_rfl) (by kernel_rfl), za6 (fn := Tryz.f24) (c := b24) (by kernel_rfl) (by kernel_rfl) (by kernel_rfl), za6 (fn := Tryz.f25) (c := b25) (by kernel_rfl) (by kernel_rfl) (by kernel_rfl), za6 (fn := Tryz.f33) (c := b33) (by kernel_rfl) (by kernel_rfl) (by kernel_rfl), za6 (fn := Tryz.f36) (c := b36) (by kernel_rfl) (by kernel_rfl) (by kernel_rfl), za6 (fn := Tryz.f37) (c := b37) (by kernel_rfl) (by kernel_rfl) (by kernel_rfl), za6 (fn := Tryz.f51) (c := b51) (by kernel_rfl) (by kernel_rfl) (by kernel_rfl), za6 (fn := Tryz.f52) (c := b52) (by kernel_rfl) (by kernel_rfl) (by kernel_rfl), za6 (fn := Tryz.f53) (c := b53) (by kernel_rfl) (by kernel_rfl) (by kernel_rfl), za6 (fn := Tryz.f54) (c := b54) (by kernel_rfl) (by kernel_rfl) (by kernel_rfl), za6 (fn := Tryz.f63) (c := b63) (by kernel_rfl) (by kernel_rfl) (by kernel_rfl), za6 (fn := Tryz.f64) (c := b64) (by kernel_rfl) (by kernel_rfl) (by kernel_rfl), za6 (fn := Tryz.f99) (c := b99) (by kernel_rfl) (by kernel_rfl) (by kernel_rfl), za6 (fn := Tryz.f100) (c := b100) (by kernel_rfl) (by kernel_rfl) (by kernel_rfl), za6 (fn := Tryz.f101) (c := b101) (by kernel_rfl) (by kernel_rfl) (by kernel_rfl), za6 (fn := Tryz.f102) (c := b102) (by kernel_rfl) (by kernel_rfl) (by kernel_rfl), za6 (fn := Tryz.f103) (c := b103) (by kernel_rfl) (by kernel_rfl) (by kernel_rfl), za6 (fn := Tryz.f104) (c := b104) (by kernel_rfl) (by kernel_rfl) (by kernel_rfl), za6 (fn := Tryz.f105) (c := b105) (by kernel_rfl) (by kernel_rfl) (by kernel_rfl), za6 (fn := Tryz.f106) (c := b106) (by kernel_rfl) (by kernel_rfl) (by kernel_rfl), za6 (fn := Tryz.f116) (c := b116) (by kernel_rfl) (by kernel_rfl) (by kernel_rfl), za6 (fn := Tryz.f117) (c := b117) (by kernel_rfl) (by kernel_rfl) (by kernel_rfl), za6 (fn := Tryz.f118) (c := b118) (by kernel_rfl) (by kernel_rfl) (by kernel_rfl), za6 (fn := Tryz.f119) (c := b119) (by kernel_rfl) (by kernel_rfl) (by kernel_rfl), za6 (fn := Tryz.f120) (c := b120) (by kernel_rfl) (by kernel_rfl) (by kernel_rfl), za6 (fn := Tryz.f121) (c := b121) (by kernel_rfl) (by kernel_rfl) (by kernel_rfl), za6 (fn := Tryz.f167) (c := b167) (by kernel_rfl) (by kernel_rfl) (by kernel_rfl), za6 (fn := Tryz.f168) (c := b168) (by kernel_rfl) (by kernel_rfl) (by kernel_rfl), za6 (fn := Tryz.f169) (c := b169) (by kernel_rfl) (by kernel_rfl) (by kernel_rfl), za6 (fn := Tryz.f170) (c := b170) (by kernel_rfl) (by kernel_rfl) (by kernel_rfl), za6 (fn := Tryz.f171) (c := b171) (by kernel_rfl) (by kernel_rfl) (by kernel_rfl), za6 (fn := Tryz.f172) (c := b172) (by kernel_rfl) (by kernel_rfl) (by kernel_rfl), za6 (fn := Tryz.f173) (c := b173) (by kernel_rfl) (by kernel_rfl) (by kernel_rfl), za6 (fn := Tryz.f174) (c := b174) (by kernel_rfl) (by kernel_rfl) (by kernel_rfl), za6 (fn := Tryz.f175) (c := b175) (by kernel_rfl) (by kernel_rfl) (by kernel_rfl), za6 (fn := Tryz.f176) (c := b176) (by kernel_rfl) (by kernel_rfl) (by kernel_rfl), za6 (fn := Tryz.f181) (c := b181) (by kernel_rfl) (by kernel_rfl) (by kernel_rfl), za6 (fn := Tryz.f183) (c := b183) (by kernel_rfl) (by kernel_rfl) (by kernel_rfl), za6 (fn := Tryz.f184) (c := b184) (by kernel_rfl) (by kernel_rfl) (by kernel_rfl), za6 (fn := Tryz.f185) (c := b185) (by kernel_rfl) (by kernel_rfl) (by kernel_rfl), za6 (fn := Tryz.f232) (c := b232) (by kernel_rfl) (by kernel_rfl) (by kernel_rfl), za6 (fn := Tryz.f233) (c := b233) (by kernel_rfl) (by kernel_rfl) (by kernel_rfl), za6 (fn := Tryz.f234) (c := b234) (by kernel_rfl) (by kernel_rfl) (by kernel_rfl), za6 (fn := Tryz.f235) (c := b235) (by kernel_rfl) (by kernel_rfl) (by kernel_rfl), za6 (fn := Tryz.f240) (c := b240) (by kernel_rfl) (by kernel_rfl) (by kernel_rfl), za6 (fn := Tryz.f246) (c := b246) (by kernel_rfl) (by kernel_rfl) (by kernel_rfl), za6 (fn := Tryz.f275) (c := b275) (by kernel_rfl) (by kernel_rfl) (by kernel_rfl), za6 (fn := Tryz.f276) (c := b276) (by kernel_rfl) (by kernel_rfl) (by kernel_rfl), za6 (fn := Tryz.f277) (c := b277) (by kernel_rfl) (by kernel_rfl) (by kernel_rfl), za6 (fn := Tryz.f278) (c := b278) (by kernel_rfl) (by kernel_rfl) (by kernel_rfl), za6 (fn := Tryz.f279) (c := b279) (by kernel_rfl) (by kernel_rfl) (by kernel_rfl), za6 (fn := Tryz.f280) (c := b280) (by kernel_rfl) (by kernel_rfl) (by kernel_rfl), za6 (fn := Tryz.f281) (c := b281) (by kernel_rfl) (by kernel_rfl) (by kernel_rfl), za6 (fn := Tryz.f287) (c := b287) (by kernel_rfl) (by kernel_rfl) (by kernel_rfl), za6 (fn := Tryz.f313) (c := b313) (by kernel_rfl) (by kernel_rfl) (by kernel_rfl), za6 (fn := Tryz.f314) (c := b314) (by kernel_rfl) (by kernel_rfl) (by kernel_rfl), za6 (fn := Tryz.f315) (c := b315) (by kernel_rfl) (by kernel_rfl) (by kernel_rfl), za6 (fn := Tryz.f316) (c := b316) (by kernel_rfl) (by kernel_rfl) (by kernel_rfl), za6 (fn := Tryz.f317) (c := b317) (by kernel_rfl) (by kernel_rfl) (by kernel_rfl), za6 (fn := Tryz.f319) (c := b319) (by kernel_rfl) (by kernel_rfl) (by kernel_rfl), za6 (fn := Tryz.f321) (c := b321) (by kernel_rfl) (by kernel_rfl) (by kernel_rfl), za6 (fn := Tryz.f337) (c := b337) (by kernel_rfl) (by kernel_rfl) (by kernel_rfl), za6 (fn := Tryz.f338) (c := b338) (by kernel_rfl) (by kernel_rfl) (by kernel_rfl), za6 (fn := Tryz.f339) (c := b339) (by kernel_rfl) (by kernel_rfl) (by kernel_rfl), za6 (fn := Tryz.f340) (c := b340) (by kernel_rfl) (by kernel_rfl) (by kernel_rfl), za6 (fn := Tryz.f341) (c := b341) (by kernel_rfl) (by kernel_rfl) (by kernel_rfl), za6 (fn := Tryz.f342) (c := b342) (by kernel_rfl) (by kernel_rfl) (by kernel_rfl), za6 (fn := Tryz.f347) (c := b347) (by kernel_rfl) (by kernel_rfl) (by kernel_rfl), za6 (fn := Tryz.f360) (c := b360) (by kernel_rfl) (by kernel_rfl) (by kernel_rfl), za6 (fn := Tryz.f361) (c := b361) (by kernel_rfl) (by kernel_rfl) (by kernel_rfl), za6 (fn := Tryz.f362) (c := b362) (by kernel_rfl) (by kernel_rfl) (by kernel_rfl), by simp⟩)
end Go.Proofs
