/- The functions of this seat with their points. (Printed by a tool.) -/
import Derived.KernelRfl
import Derived.Test.YtbgilkcahebbfaaGreatDoorB17
set_option linter.all false
noncomputable section
set_option maxRecDepth 100000
namespace Go.Proofs
open Go Go.Am
variable [zcb]
def bd (f : Func) : Code := match f.body with | some b => b | none => .skip
def b4 := bd Tryz.f4
def a4 : zb5 := ⟨zbc [(14, ⟨29, [9], [(7, 4)]⟩)] [(0, ⟨2, [1, 6, 8], [(5, 2), (7, 4)]⟩)] 0 b4, [5, 7]⟩
def b10 := bd Tryz.f10
def a10 : zb5 := ⟨zbc [] [(0, ⟨2, [2, 3, 4], []⟩)] 0 b10, [1]⟩
def b11 := bd Tryz.f11
def a11 : zb5 := ⟨zbc [] [] 0 b11, [1]⟩
def b17 := bd Tryz.f17
def a17 : zb5 := ⟨zbc [] [] 0 b17, [0]⟩
def b18 := bd Tryz.f18
def a18 : zb5 := ⟨zbc [(16, ⟨33, [2], [(3, 1), (4, 9), (8, 6)]⟩)] [(1, ⟨4, [2, 95, 96, 97], [(3, 1)]⟩)] 0 b18, [3, 4, 8, 10]⟩
def b22 := bd Tryz.f22
def a22 : zb5 := ⟨zbc [] [] 0 b22, []⟩
def b23 := bd Tryz.f23
def a23 : zb5 := ⟨zbc [] [] 0 b23, []⟩
def b24 := bd Tryz.f24
def a24 : zb5 := ⟨zbc [] [] 0 b24, []⟩
def b26 := bd Tryz.f26
def a26 : zb5 := ⟨zbc [] [] 0 b26, [2, 3]⟩
def b27 := bd Tryz.f27
def a27 : zb5 := ⟨zbc [] [] 0 b27, [1]⟩
def b37 := bd Tryz.f37
def a37 : zb5 := ⟨zbc [] [] 0 b37, []⟩
def b38 := bd Tryz.f38
def a38 : zb5 := ⟨zbc [] [] 0 b38, []⟩
def b39 := bd Tryz.f39
def a39 : zb5 := ⟨zbc [] [] 0 b39, [1]⟩
def b42 := bd Tryz.f42
def a42 : zb5 := ⟨zbc [(7, ⟨15, [0, 1, 5, 20, 21, 22], [(4, 3)]⟩), (15, ⟨31, [0, 1, 8, 42, 43, 44], [(7, 3)]⟩)] [(0, ⟨2, [0, 1, 20, 21, 22], []⟩), (2, ⟨6, [0, 1, 42, 43, 44], []⟩), (4, ⟨10, [0, 1, 42, 43, 44, 59, 60, 61], [(7, 3)]⟩), (6, ⟨14, [0, 75, 76, 77], []⟩)] 0 b42, [4, 7, 10, 12]⟩
def b44 := bd Tryz.f44
def a44 : zb5 := ⟨zbc [(4, ⟨9, [5], [(2, 7)]⟩)] [] 0 b44, [2]⟩
def b47 := bd Tryz.f47
def a47 : zb5 := ⟨zbc [] [] 0 b47, [1]⟩
def b48 := bd Tryz.f48
def a48 : zb5 := ⟨zbc [] [(0, ⟨2, [1, 7, 8, 9], []⟩)] 0 b48, [6]⟩
def b49 := bd Tryz.f49
def a49 : zb5 := ⟨zbc [] [(0, ⟨2, [1, 7, 8, 9], []⟩)] 0 b49, [6]⟩
def b50 := bd Tryz.f50
def a50 : zb5 := ⟨zbc [] [] 0 b50, []⟩
def b51 := bd Tryz.f51
def a51 : zb5 := ⟨zbc [] [(0, ⟨2, [1, 7, 8, 9], []⟩)] 0 b51, [6]⟩
def b52 := bd Tryz.f52
def a52 : zb5 := ⟨zbc [] [] 0 b52, [2, 3]⟩
def b53 := bd Tryz.f53
def a53 : zb5 := ⟨zbc [] [] 0 b53, [1]⟩
def b54 := bd Tryz.f54
def a54 : zb5 := ⟨zbc [] [] 0 b54, [1]⟩
def b55 := bd Tryz.f55
def a55 : zb5 := ⟨zbc [] [] 0 b55, []⟩
def b57 := bd Tryz.f57
def a57 : zb5 := ⟨zbc [] [] 0 b57, [1]⟩
def b58 := bd Tryz.f58
def a58 : zb5 := ⟨zbc [] [] 0 b58, []⟩
def b59 := bd Tryz.f59
def a59 : zb5 := ⟨zbc [] [] 0 b59, []⟩
def b76 := bd Tryz.f76
def a76 : zb5 := ⟨zbc [] [] 0 b76, [8]⟩
def b77 := bd Tryz.f77
def a77 : zb5 := ⟨zbc [] [] 0 b77, [2]⟩
def b78 := bd Tryz.f78
def a78 : zb5 := ⟨zbc [] [] 0 b78, [8]⟩
def b79 := bd Tryz.f79
def a79 : zb5 := ⟨zbc [] [] 0 b79, []⟩
def b80 := bd Tryz.f80
def a80 : zb5 := ⟨zbc [] [(0, ⟨2, [0, 1, 5], []⟩)] 0 b80, []⟩
def b81 := bd Tryz.f81
def a81 : zb5 := ⟨zbc [] [] 0 b81, []⟩
def b82 := bd Tryz.f82
def a82 : zb5 := ⟨zbc [] [] 0 b82, []⟩
def b87 := bd Tryz.f87
def a87 : zb5 := ⟨zbc [] [] 0 b87, []⟩
def b88 := bd Tryz.f88
def a88 : zb5 := ⟨zbc [] [] 0 b88, [3]⟩
def b89 := bd Tryz.f89
def a89 : zb5 := ⟨zbc [] [(0, ⟨2, [1, 7, 8, 9], []⟩)] 0 b89, [6]⟩
def b90 := bd Tryz.f90
def a90 : zb5 := ⟨zbc [] [] 0 b90, [1]⟩
def b91 := bd Tryz.f91
def a91 : zb5 := ⟨zbc [] [] 0 b91, [1]⟩
def b92 := bd Tryz.f92
def a92 : zb5 := ⟨zbc [] [] 0 b92, [1]⟩
def b93 := bd Tryz.f93
def a93 : zb5 := ⟨zbc [] [] 0 b93, []⟩
def b95 := bd Tryz.f95
def a95 : zb5 := ⟨zbc [] [] 0 b95, []⟩
def b96 := bd Tryz.f96
def a96 : zb5 := ⟨zbc [] [] 0 b96, []⟩
def b97 := bd Tryz.f97
def a97 : zb5 := ⟨zbc [] [(0, ⟨2, [1, 3, 4, 9], [(8, 10)]⟩)] 0 b97, [8]⟩
def b112 := bd Tryz.f112
def a112 : zb5 := ⟨zbc [] [] 0 b112, []⟩
def b116 := bd Tryz.f116
def a116 : zb5 := ⟨zbc [] [] 0 b116, [1]⟩
def b117 := bd Tryz.f117
def a117 : zb5 := ⟨zbc [(14, ⟨29, [2, 3, 4, 8], []⟩)] [(0, ⟨2, [2, 3, 4, 5], [(1, 2)]⟩), (2, ⟨6, [8], []⟩), (4, ⟨10, [8, 10, 61, 62], []⟩)] 0 b117, [1]⟩
def b118 := bd Tryz.f118
def a118 : zb5 := ⟨zbc [] [] 0 b118, [1]⟩
def b119 := bd Tryz.f119
def a119 : zb5 := ⟨zbc [] [] 0 b119, []⟩
def b120 := bd Tryz.f120
def a120 : zb5 := ⟨zbc [] [] 0 b120, []⟩
def b121 := bd Tryz.f121
def a121 : zb5 := ⟨zbc [] [] 0 b121, []⟩
def b122 := bd Tryz.f122
def a122 : zb5 := ⟨zbc [] [] 0 b122, []⟩
def b123 := bd Tryz.f123
def a123 : zb5 := ⟨zbc [] [(0, ⟨2, [0, 3, 4, 5], []⟩)] 0 b123, []⟩
def b147 := bd Tryz.f147
def a147 : zb5 := ⟨zbc [] [] 0 b147, [1]⟩
def b148 := bd Tryz.f148
def a148 : zb5 := ⟨zbc [] [] 0 b148, [1]⟩
def b149 := bd Tryz.f149
def a149 : zb5 := ⟨zbc [] [] 0 b149, [1]⟩
def b150 := bd Tryz.f150
def a150 : zb5 := ⟨zbc [] [] 0 b150, [2, 3, 4, 5]⟩
def b151 := bd Tryz.f151
def a151 : zb5 := ⟨zbc [] [(0, ⟨2, [3, 11, 12, 13], []⟩)] 0 b151, []⟩
def b152 := bd Tryz.f152
def a152 : zb5 := ⟨zbc [] [(0, ⟨2, [0, 1, 6, 7, 8], []⟩)] 0 b152, []⟩
def b153 := bd Tryz.f153
def a153 : zb5 := ⟨zbc [] [] 0 b153, []⟩
def b155 := bd Tryz.f155
def a155 : zb5 := ⟨zbc [] [] 0 b155, []⟩
def b156 := bd Tryz.f156
def a156 : zb5 := ⟨zbc [] [] 0 b156, []⟩
def b157 := bd Tryz.f157
def a157 : zb5 := ⟨zbc [] [(0, ⟨2, [1, 5, 6], []⟩)] 0 b157, []⟩
def b158 := bd Tryz.f158
def a158 : zb5 := ⟨zbc [] [] 0 b158, []⟩
def b159 := bd Tryz.f159
def a159 : zb5 := ⟨zbc [] [] 0 b159, []⟩
def b160 := bd Tryz.f160
def a160 : zb5 := ⟨zbc [] [] 0 b160, []⟩
def b172 := bd Tryz.f172
def a172 : zb5 := ⟨zbc [] [] 0 b172, [2, 3, 4]⟩
def b173 := bd Tryz.f173
def a173 : zb5 := ⟨zbc [(3, ⟨7, [0, 1, 2], []⟩)] [] 0 b173, []⟩
def b174 := bd Tryz.f174
def a174 : zb5 := ⟨zbc [] [(0, ⟨2, [0], []⟩)] 0 b174, []⟩
def b175 := bd Tryz.f175
def a175 : zb5 := ⟨zbc [] [(0, ⟨2, [0, 1, 3], []⟩)] 0 b175, []⟩
def b177 := bd Tryz.f177
def a177 : zb5 := ⟨zbc [] [] 0 b177, []⟩
def b192 := bd Tryz.f192
def a192 : zb5 := ⟨zbc [] [(0, ⟨2, [5, 6, 7], []⟩)] 0 b192, [4]⟩
def b193 := bd Tryz.f193
def a193 : zb5 := ⟨zbc [] [(0, ⟨2, [0, 5, 18, 19, 20], [(4, 2)]⟩)] 0 b193, [4]⟩
def b194 := bd Tryz.f194
def a194 : zb5 := ⟨zbc [(16, ⟨33, [0, 1], []⟩)] [(0, ⟨2, [0, 1], []⟩), (2, ⟨6, [10, 11], []⟩)] 0 b194, [5]⟩
def b203 := bd Tryz.f203
def a203 : zb5 := ⟨zbc [] [(0, ⟨2, [0, 1, 5], []⟩)] 0 b203, []⟩
def b204 := bd Tryz.f204
def a204 : zb5 := ⟨zbc [] [(0, ⟨2, [7, 8, 10, 11], [(4, 5), (9, 5)]⟩)] 0 b204, [4, 9]⟩
def b205 := bd Tryz.f205
def a205 : zb5 := ⟨zbc [] [(0, ⟨2, [8, 9, 10, 11, 12, 13], []⟩), (2, ⟨6, [8, 9, 11, 12, 77, 78], []⟩)] 0 b205, []⟩
def b206 := bd Tryz.f206
def a206 : zb5 := ⟨zbc [(8, ⟨17, [0, 1, 2, 3, 9, 10, 11, 12, 13, 22, 23], []⟩), (10, ⟨21, [0, 1, 2, 3, 9, 10, 11, 12, 13, 22, 23], []⟩)] [(0, ⟨2, [0, 1, 2, 3, 9, 10, 11, 12, 22, 23], []⟩)] 0 b206, []⟩
def b207 := bd Tryz.f207
def a207 : zb5 := ⟨zbc [] [(0, ⟨2, [3], []⟩)] 0 b207, []⟩
def b208 := bd Tryz.f208
def a208 : zb5 := ⟨zbc [] [] 0 b208, []⟩
def b212 := bd Tryz.f212
def a212 : zb5 := ⟨zbc [] [] 0 b212, []⟩
def b213 := bd Tryz.f213
def a213 : zb5 := ⟨zbc [] [] 0 b213, []⟩
def b214 := bd Tryz.f214
def a214 : zb5 := ⟨zbc [] [] 0 b214, []⟩
def b215 := bd Tryz.f215
def a215 : zb5 := ⟨zbc [] [(0, ⟨2, [1, 5, 13, 14, 15], []⟩)] 0 b215, []⟩
def b216 := bd Tryz.f216
def a216 : zb5 := ⟨zbc [(9, ⟨19, [0, 1, 5, 8], []⟩)] [(0, ⟨2, [0, 1, 5, 7, 8, 9], []⟩), (2, ⟨6, [0, 1, 5, 8, 10, 11, 76, 77, 78], []⟩), (4, ⟨10, [0, 5, 8, 17, 129, 130, 131], []⟩)] 0 b216, []⟩
def b217 := bd Tryz.f217
def a217 : zb5 := ⟨zbc [] [] 0 b217, []⟩
def b219 := bd Tryz.f219
def a219 : zb5 := ⟨zbc [(4, ⟨9, [0, 2], []⟩), (7, ⟨15, [0, 2], []⟩)] [] 0 b219, []⟩
def b220 := bd Tryz.f220
def a220 : zb5 := ⟨zbc [] [] 0 b220, []⟩
def b221 := bd Tryz.f221
def a221 : zb5 := ⟨zbc [] [] 0 b221, []⟩
def FL : List (Nat × zb5) := [(4, a4), (10, a10), (11, a11), (17, a17), (18, a18), (22, a22), (23, a23), (24, a24), (26, a26), (27, a27), (37, a37), (38, a38), (39, a39), (42, a42), (44, a44), (47, a47), (48, a48), (49, a49), (50, a50), (51, a51), (52, a52), (53, a53), (54, a54), (55, a55), (57, a57), (58, a58), (59, a59), (76, a76), (77, a77), (78, a78), (79, a79), (80, a80), (81, a81), (82, a82), (87, a87), (88, a88), (89, a89), (90, a90), (91, a91), (92, a92), (93, a93), (95, a95), (96, a96), (97, a97), (112, a112), (116, a116), (117, a117), (118, a118), (119, a119), (120, a120), (121, a121), (122, a122), (123, a123), (147, a147), (148, a148), (149, a149), (150, a150), (151, a151), (152, a152), (153, a153), (155, a155), (156, a156), (157, a157), (158, a158), (159, a159), (160, a160), (172, a172), (173, a173), (174, a174), (175, a175), (177, a177), (192, a192), (193, a193), (194, a194), (203, a203), (204, a204), (205, a205), (206, a206), (207, a207), (208, a208), (212, a212), (213, a213), (214, a214), (215, a215), (216, a216), (217, a217), (219, a219), (220, a220), (221, a221)]
def F : Tr zb5 := tabF FL
def zay (f : Nat) : Bool := zck f [7, 11, 12, 16, 18, 24, 26, 27, 28, 38, 39, 43, 44, 47, 48, 49, 50, 51, 52, 53, 54, 55, 56, 57, 58, 59, 76, 77, 78, 79, 80, 81, 82, 87, 88, 89, 90, 91, 92, 93, 94, 95, 96, 97, 112, 114, 116, 117, 118, 119, 120, 121, 122, 123, 147, 148, 149, 155, 156, 158, 159, 160, 173, 174, 177, 192, 203, 207, 212, 213, 217, 219, 220, 221, 6, 98, 154, 113]
abbrev wp (f : Nat) (T : T) (m : Tr zak) (Q : zao) : Prop := wpT C13.base (Wq C13 F zay) (Jq C13 F f) T m Q
abbrev Wf (f : Nat) (a : List zab) (m : Tr zak) (Q : zao) : Prop := Wc C13 F f a m Q
abbrev jp (f i : Nat) (a : List zab) (m : Tr zak) (Q : zao) : Prop := Jq C13 F f i a m Q
abbrev pv (f : Nat) (a : List zab) (m : Tr zak) : Option zab := pvC C13 F f a m
theorem ok4 : zcx C13 F 4 Tryz.f4 12 a4 := by constructor <;> kernel_rfl
theorem ok10 : zcx C13 F 10 Tryz.f10 12 a10 := by constructor <;> kernel_rfl
theorem ok11 : zcx C13 F 11 Tryz.f11 3 a11 := by constructor <;> kernel_rfl
theorem ok17 : zcx C13 F 17 Tryz.f17 1 a17 := by constructor <;> kernel_rfl
theorem ok18 : zcx C13 F 18 Tryz.f18 98 a18 := by constructor <;> kernel_rfl
theorem ok22 : zcx C13 F 22 Tryz.f22 3 a22 := by constructor <;> kernel_rfl
theorem ok23 : zcx C13 F 23 Tryz.f23 6 a23 := by constructor <;> kernel_rfl
theorem ok24 : zcx C13 F 24 Tryz.f24 3 a24 := by constructor <;> kernel_rfl
theorem ok26 : zcx C13 F 26 Tryz.f26 6 a26 := by constructor <;> kernel_rfl
theorem ok27 : zcx C13 F 27 Tryz.f27 42 a27 := by constructor <;> kernel_rfl
theorem ok37 : zcx C13 F 37 Tryz.f37 4 a37 := by constructor <;> kernel_rfl
theorem ok38 : zcx C13 F 38 Tryz.f38 3 a38 := by constructor <;> kernel_rfl
theorem ok39 : zcx C13 F 39 Tryz.f39 3 a39 := by constructor <;> kernel_rfl
theorem ok42 : zcx C13 F 42 Tryz.f42 78 a42 := by constructor <;> kernel_rfl
theorem ok44 : zcx C13 F 44 Tryz.f44 6 a44 := by constructor <;> kernel_rfl
theorem ok47 : zcx C13 F 47 Tryz.f47 3 a47 := by constructor <;> kernel_rfl
theorem ok48 : zcx C13 F 48 Tryz.f48 10 a48 := by constructor <;> kernel_rfl
theorem ok49 : zcx C13 F 49 Tryz.f49 10 a49 := by constructor <;> kernel_rfl
theorem ok50 : zcx C13 F 50 Tryz.f50 5 a50 := by constructor <;> kernel_rfl
theorem ok51 : zcx C13 F 51 Tryz.f51 10 a51 := by constructor <;> kernel_rfl
theorem ok52 : zcx C13 F 52 Tryz.f52 5 a52 := by constructor <;> kernel_rfl
theorem ok53 : zcx C13 F 53 Tryz.f53 5 a53 := by constructor <;> kernel_rfl
theorem ok54 : zcx C13 F 54 Tryz.f54 3 a54 := by constructor <;> kernel_rfl
theorem ok55 : zcx C13 F 55 Tryz.f55 3 a55 := by constructor <;> kernel_rfl
theorem ok57 : zcx C13 F 57 Tryz.f57 5 a57 := by constructor <;> kernel_rfl
theorem ok58 : zcx C13 F 58 Tryz.f58 8 a58 := by constructor <;> kernel_rfl
theorem ok59 : zcx C13 F 59 Tryz.f59 3 a59 := by constructor <;> kernel_rfl
theorem ok76 : zcx C13 F 76 Tryz.f76 9 a76 := by constructor <;> kernel_rfl
theorem ok77 : zcx C13 F 77 Tryz.f77 3 a77 := by constructor <;> kernel_rfl
theorem ok78 : zcx C13 F 78 Tryz.f78 9 a78 := by constructor <;> kernel_rfl
theorem ok79 : zcx C13 F 79 Tryz.f79 3 a79 := by constructor <;> kernel_rfl
theorem ok80 : zcx C13 F 80 Tryz.f80 6 a80 := by constructor <;> kernel_rfl
theorem ok81 : zcx C13 F 81 Tryz.f81 3 a81 := by constructor <;> kernel_rfl
theorem ok82 : zcx C13 F 82 Tryz.f82 4 a82 := by constructor <;> kernel_rfl
theorem ok87 : zcx C13 F 87 Tryz.f87 3 a87 := by constructor <;> kernel_rfl
theorem ok88 : zcx C13 F 88 Tryz.f88 5 a88 := by constructor <;> kernel_rfl
theorem ok89 : zcx C13 F 89 Tryz.f89 10 a89 := by constructor <;> kernel_rfl
theorem ok90 : zcx C13 F 90 Tryz.f90 3 a90 := by constructor <;> kernel_rfl
theorem ok91 : zcx C13 F 91 Tryz.f91 3 a91 := by constructor <;> kernel_rfl
theorem ok92 : zcx C13 F 92 Tryz.f92 8 a92 := by constructor <;> kernel_rfl
theorem ok93 : zcx C13 F 93 Tryz.f93 5 a93 := by constructor <;> kernel_rfl
theorem ok95 : zcx C13 F 95 Tryz.f95 5 a95 := by constructor <;> kernel_rfl
theorem ok96 : zcx C13 F 96 Tryz.f96 7 a96 := by constructor <;> kernel_rfl
theorem ok97 : zcx C13 F 97 Tryz.f97 10 a97 := by constructor <;> kernel_rfl
theorem ok112 : zcx C13 F 112 Tryz.f112 3 a112 := by constructor <;> kernel_rfl
theorem ok116 : zcx C13 F 116 Tryz.f116 3 a116 := by constructor <;> kernel_rfl
theorem z99 : zcx C13 F 117 Tryz.f117 63 a117 := by constructor <;> kernel_rfl
theorem ok118 : zcx C13 F 118 Tryz.f118 3 a118 := by constructor <;> kernel_rfl
theorem ok119 : zcx C13 F 119 Tryz.f119 5 a119 := by constructor <;> kernel_rfl
theorem ok120 : zcx C13 F 120 Tryz.f120 6 a120 := by constructor <;> kernel_rfl
theorem ok121 : zcx C13 F 121 Tryz.f121 3 a121 := by constructor <;> kernel_rfl
theorem ok122 : zcx C13 F 122 Tryz.f122 3 a122 := by constructor <;> kernel_rfl
theorem ok123 : zcx C13 F 123 Tryz.f123 6 a123 := by constructor <;> kernel_rfl
theorem ok147 : zcx C13 F 147 Tryz.f147 3 a147 := by constructor <;> kernel_rfl
theorem ok148 : zcx C13 F 148 Tryz.f148 4 a148 := by constructor <;> kernel_rfl
theorem ok149 : zcx C13 F 149 Tryz.f149 3 a149 := by constructor <;> kernel_rfl
theorem ok150 : zcx C13 F 150 Tryz.f150 7 a150 := by constructor <;> kernel_rfl
theorem ok151 : zcx C13 F 151 Tryz.f151 14 a151 := by constructor <;> kernel_rfl
theorem ok152 : zcx C13 F 152 Tryz.f152 9 a152 := by constructor <;> kernel_rfl
theorem ok153 : zcx C13 F 153 Tryz.f153 3 a153 := by constructor <;> kernel_rfl
theorem ok155 : zcx C13 F 155 Tryz.f155 5 a155 := by constructor <;> kernel_rfl
theorem ok156 : zcx C13 F 156 Tryz.f156 6 a156 := by constructor <;> kernel_rfl
theorem ok157 : zcx C13 F 157 Tryz.f157 8 a157 := by constructor <;> kernel_rfl
theorem ok158 : zcx C13 F 158 Tryz.f158 4 a158 := by constructor <;> kernel_rfl
theorem ok159 : zcx C13 F 159 Tryz.f159 3 a159 := by constructor <;> kernel_rfl
theorem ok160 : zcx C13 F 160 Tryz.f160 5 a160 := by constructor <;> kernel_rfl
theorem ok172 : zcx C13 F 172 Tryz.f172 6 a172 := by constructor <;> kernel_rfl
theorem ok173 : zcx C13 F 173 Tryz.f173 9 a173 := by constructor <;> kernel_rfl
theorem ok174 : zcx C13 F 174 Tryz.f174 3 a174 := by constructor <;> kernel_rfl
theorem ok175 : zcx C13 F 175 Tryz.f175 4 a175 := by constructor <;> kernel_rfl
theorem ok177 : zcx C13 F 177 Tryz.f177 3 a177 := by constructor <;> kernel_rfl
theorem ok192 : zcx C13 F 192 Tryz.f192 8 a192 := by constructor <;> kernel_rfl
theorem ok193 : zcx C13 F 193 Tryz.f193 21 a193 := by constructor <;> kernel_rfl
theorem zzeq : zcx C13 F 194 Tryz.f194 12 a194 := by constructor <;> kernel_rfl
theorem ok203 : zcx C13 F 203 Tryz.f203 6 a203 := by constructor <;> kernel_rfl
theorem ok204 : zcx C13 F 204 Tryz.f204 14 a204 := by constructor <;> kernel_rfl
theorem zzjc : zcx C13 F 205 Tryz.f205 79 a205 := by constructor <;> kernel_rfl
theorem zzep : zcx C13 F 206 Tryz.f206 24 a206 := by constructor <;> kernel_rfl
theorem ok207 : zcx C13 F 207 Tryz.f207 8 a207 := by constructor <;> kernel_rfl
theorem ok208 : zcx C13 F 208 Tryz.f208 3 a208 := by constructor <;> kernel_rfl
theorem ok212 : zcx C13 F 212 Tryz.f212 3 a212 := by constructor <;> kernel_rfl
theorem ok213 : zcx C13 F 213 Tryz.f213 8 a213 := by constructor <;> kernel_rfl
theorem ok214 : zcx C13 F 214 Tryz.f214 3 a214 := by constructor <;> kernel_rfl
theorem ok215 : zcx C13 F 215 Tryz.f215 16 a215 := by constructor <;> kernel_rfl
theorem z98 : zcx C13 F 216 Tryz.f216 132 a216 := by constructor <;> kernel_rfl
theorem ok217 : zcx C13 F 217 Tryz.f217 8 a217 := by constructor <;> kernel_rfl
theorem zzjb : zcx C13 F 219 Tryz.f219 3 a219 := by constructor <;> kernel_rfl
theorem ok220 : zcx C13 F 220 Tryz.f220 4 a220 := by constructor <;> kernel_rfl
theorem ok221 : zcx C13 F 221 Tryz.f221 9 a221 := by constructor <;> kernel_rfl
theorem q10 {a : List zab} {m : Tr zak} {R : zao} : Wq C13 F zay 10 a m R = Wc C13 F 10 a m R := if_neg (by rw [show zay 10 = false by kernel_rfl]; simp)
theorem q11 {a : List zab} {m : Tr zak} {R : zao} : Wq C13 F zay 11 a m R = zcf (pvC C13 F 11 a m) (fun v => R v m) := if_pos (by kernel_rfl)
theorem q17 {a : List zab} {m : Tr zak} {R : zao} : Wq C13 F zay 17 a m R = Wc C13 F 17 a m R := if_neg (by rw [show zay 17 = false by kernel_rfl]; simp)
theorem q18 {a : List zab} {m : Tr zak} {R : zao} : Wq C13 F zay 18 a m R = zcf (pvC C13 F 18 a m) (fun v => R v m) := if_pos (by kernel_rfl)
theorem q22 {a : List zab} {m : Tr zak} {R : zao} : Wq C13 F zay 22 a m R = Wc C13 F 22 a m R := if_neg (by rw [show zay 22 = false by kernel_rfl]; simp)
theorem q23 {a : List zab} {m : Tr zak} {R : zao} : Wq C13 F zay 23 a m R = Wc C13 F 23 a m R := if_neg (by rw [show zay 23 = false by kernel_rfl]; simp)
theorem q24 {a : List zab} {m : Tr zak} {R : zao} : Wq C13 F zay 24 a m R = zcf (pvC C13 F 24 a m) (fun v => R v m) := if_pos (by kernel_rfl)
theorem q26 {a : List zab} {m : Tr zak} {R : zao} : Wq C13 F zay 26 a m R = zcf (pvC C13 F 26 a m) (fun v => R v m) := if_pos (by kernel_rfl)
theorem q27 {a : List zab} {m : Tr zak} {R : zao} : Wq C13 F zay 27 a m R = zcf (pvC C13 F 27 a m) (fun v => R v m) := if_pos (by kernel_rfl)
theorem q37 {a : List zab} {m : Tr zak} {R : zao} : Wq C13 F zay 37 a m R = Wc C13 F 37 a m R := if_neg (by rw [show zay 37 = false by kernel_rfl]; simp)
theorem q38 {a : List zab} {m : Tr zak} {R : zao} : Wq C13 F zay 38 a m R = zcf (pvC C13 F 38 a m) (fun v => R v m) := if_pos (by kernel_rfl)
theorem q39 {a : List zab} {m : Tr zak} {R : zao} : Wq C13 F zay 39 a m R = zcf (pvC C13 F 39 a m) (fun v => R v m) := if_pos (by kernel_rfl)
theorem q42 {a : List zab} {m : Tr zak} {R : zao} : Wq C13 F zay 42 a m R = Wc C13 F 42 a m R := if_neg (by rw [show zay 42 = false by kernel_rfl]; simp)
theorem q44 {a : List zab} {m : Tr zak} {R : zao} : Wq C13 F zay 44 a m R = zcf (pvC C13 F 44 a m) (fun v => R v m) := if_pos (by kernel_rfl)
theorem q47 {a : List zab} {m : Tr zak} {R : zao} : Wq C13 F zay 47 a m R = zcf (pvC C13 F 47 a m) (fun v => R v m) := if_pos (by kernel_rfl)
theorem q48 {a : List zab} {m : Tr zak} {R : zao} : Wq C13 F zay 48 a m R = zcf (pvC C13 F 48 a m) (fun v => R v m) := if_pos (by kernel_rfl)
theorem q49 {a : List zab} {m : Tr zak} {R : zao} : Wq C13 F zay 49 a m R = zcf (pvC C13 F 49 a m) (fun v => R v m) := if_pos (by kernel_rfl)
theorem q50 {a : List zab} {m : Tr zak} {R : zao} : Wq C13 F zay 50 a m R = zcf (pvC C13 F 50 a m) (fun v => R v m) := if_pos (by kernel_rfl)
theorem q51 {a : List zab} {m : Tr zak} {R : zao} : Wq C13 F zay 51 a m R = zcf (pvC C13 F 51 a m) (fun v => R v m) := if_pos (by kernel_rfl)
theorem q52 {a : List zab} {m : Tr zak} {R : zao} : Wq C13 F zay 52 a m R = zcf (pvC C13 F 52 a m) (fun v => R v m) := if_pos (by kernel_rfl)
theorem q53 {a : List zab} {m : Tr zak} {R : zao} : Wq C13 F zay 53 a m R = zcf (pvC C13 F 53 a m) (fun v => R v m) := if_pos (by kernel_rfl)
theorem q54 {a : List zab} {m : Tr zak} {R : zao} : Wq C13 F zay 54 a m R = zcf (pvC C13 F 54 a m) (fun v => R v m) := if_pos (by kernel_rfl)
theorem q55 {a : List zab} {m : Tr zak} {R : zao} : Wq C13 F zay 55 a m R = zcf (pvC C13 F 55 a m) (fun v => R v m) := if_pos (by kernel_rfl)
theorem q57 {a : List zab} {m : Tr zak} {R : zao} : Wq C13 F zay 57 a m R = zcf (pvC C13 F 57 a m) (fun v => R v m) := if_pos (by kernel_rfl)
theorem q58 {a : List zab} {m : Tr zak} {R : zao} : Wq C13 F zay 58 a m R = zcf (pvC C13 F 58 a m) (fun v => R v m) := if_pos (by kernel_rfl)
theorem q59 {a : List zab} {m : Tr zak} {R : zao} : Wq C13 F zay 59 a m R = zcf (pvC C13 F 59 a m) (fun v => R v m) := if_pos (by kernel_rfl)
theorem q76 {a : List zab} {m : Tr zak} {R : zao} : Wq C13 F zay 76 a m R = zcf (pvC C13 F 76 a m) (fun v => R v m) := if_pos (by kernel_rfl)
theorem q77 {a : List zab} {m : Tr zak} {R : zao} : Wq C13 F zay 77 a m R = zcf (pvC C13 F 77 a m) (fun v => R v m) := if_pos (by kernel_rfl)
theorem q78 {a : List zab} {m : Tr zak} {R : zao} : Wq C13 F zay 78 a m R = zcf (pvC C13 F 78 a m) (fun v => R v m) := if_pos (by kernel_rfl)
theorem q79 {a : List zab} {m : Tr zak} {R : zao} : Wq C13 F zay 79 a m R = zcf (pvC C13 F 79 a m) (fun v => R v m) := if_pos (by kernel_rfl)
theorem q80 {a : List zab} {m : Tr zak} {R : zao} : Wq C13 F zay 80 a m R = zcf (pvC C13 F 80 a m) (fun v => R v m) := if_pos (by kernel_rfl)
theorem q81 {a : List zab} {m : Tr zak} {R : zao} : Wq C13 F zay 81 a m R = zcf (pvC C13 F 81 a m) (fun v => R v m) := if_pos (by kernel_rfl)
theorem q82 {a : List zab} {m : Tr zak} {R : zao} : Wq C13 F zay 82 a m R = zcf (pvC C13 F 82 a m) (fun v => R v m) := if_pos (by kernel_rfl)
theorem q87 {a : List zab} {m : Tr zak} {R : zao} : Wq C13 F zay 87 a m R = zcf (pvC C13 F 87 a m) (fun v => R v m) := if_pos (by kernel_rfl)
theorem q88 {a : List zab} {m : Tr zak} {R : zao} : Wq C13 F zay 88 a m R = zcf (pvC C13 F 88 a m) (fun v => R v m) := if_pos (by kernel_rfl)
theorem q89 {a : List zab} {m : Tr zak} {R : zao} : Wq C13 F zay 89 a m R = zcf (pvC C13 F 89 a m) (fun v => R v m) := if_pos (by kernel_rfl)
theorem q90 {a : List zab} {m : Tr zak} {R : zao} : Wq C13 F zay 90 a m R = zcf (pvC C13 F 90 a m) (fun v => R v m) := if_pos (by kernel_rfl)
theorem q91 {a : List zab} {m : Tr zak} {R : zao} : Wq C13 F zay 91 a m R = zcf (pvC C13 F 91 a m) (fun v => R v m) := if_pos (by kernel_rfl)
theorem q92 {a : List zab} {m : Tr zak} {R : zao} : Wq C13 F zay 92 a m R = zcf (pvC C13 F 92 a m) (fun v => R v m) := if_pos (by kernel_rfl)
theorem q93 {a : List zab} {m : Tr zak} {R : zao} : Wq C13 F zay 93 a m R = zcf (pvC C13 F 93 a m) (fun v => R v m) := if_pos (by kernel_rfl)
theorem q95 {a : List zab} {m : Tr zak} {R : zao} : Wq C13 F zay 95 a m R = zcf (pvC C13 F 95 a m) (fun v => R v m) := if_pos (by kernel_rfl)
theorem q96 {a : List zab} {m : Tr zak} {R : zao} : Wq C13 F zay 96 a m R = zcf (pvC C13 F 96 a m) (fun v => R v m) := if_pos (by kernel_rfl)
theorem q97 {a : List zab} {m : Tr zak} {R : zao} : Wq C13 F zay 97 a m R = zcf (pvC C13 F 97 a m) (fun v => R v m) := if_pos (by kernel_rfl)
theorem q112 {a : List zab} {m : Tr zak} {R : zao} : Wq C13 F zay 112 a m R = zcf (pvC C13 F 112 a m) (fun v => R v m) := if_pos (by kernel_rfl)
theorem q116 {a : List zab} {m : Tr zak} {R : zao} : Wq C13 F zay 116 a m R = zcf (pvC C13 F 116 a m) (fun v => R v m) := if_pos (by kernel_rfl)
theorem q117 {a : List zab} {m : Tr zak} {R : zao} : Wq C13 F zay 117 a m R = zcf (pvC C13 F 117 a m) (fun v => R v m) := if_pos (by kernel_rfl)
theorem q118 {a : List zab} {m : Tr zak} {R : zao} : Wq C13 F zay 118 a m R = zcf (pvC C13 F 118 a m) (fun v => R v m) := if_pos (by kernel_rfl)
theorem q119 {a : List zab} {m : Tr zak} {R : zao} : Wq C13 F zay 119 a m R = zcf (pvC C13 F 119 a m) (fun v => R v m) := if_pos (by kernel_rfl)
theorem q120 {a : List zab} {m : Tr zak} {R : zao} : Wq C13 F zay 120 a m R = zcf (pvC C13 F 120 a m) (fun v => R v m) := if_pos (by kernel_rfl)
theorem q121 {a : List zab} {m : Tr zak} {R : zao} : Wq C13 F zay 121 a m R = zcf (pvC C13 F 121 a m) (fun v => R v m) := if_pos (by kernel_rfl)
theorem q122 {a : List zab} {m : Tr zak} {R : zao} : Wq C13 F zay 122 a m R = zcf (pvC C13 F 122 a m) (fun v => R v m) := if_pos (by kernel_rfl)
theorem q123 {a : List zab} {m : Tr zak} {R : zao} : Wq C13 F zay 123 a m R = zcf (pvC C13 F 123 a m) (fun v => R v m) := if_pos (by kernel_rfl)
theorem q147 {a : List zab} {m : Tr zak} {R : zao} : Wq C13 F zay 147 a m R = zcf (pvC C13 F 147 a m) (fun v => R v m) := if_pos (by kernel_rfl)
theorem q148 {a : List zab} {m : Tr zak} {R : zao} : Wq C13 F zay 148 a m R = zcf (pvC C13 F 148 a m) (fun v => R v m) := if_pos (by kernel_rfl)
theorem q149 {a : List zab} {m : Tr zak} {R : zao} : Wq C13 F zay 149 a m R = zcf (pvC C13 F 149 a m) (fun v => R v m) := if_pos (by kernel_rfl)
theorem q150 {a : List zab} {m : Tr zak} {R : zao} : Wq C13 F zay 150 a m R = Wc C13 F 150 a m R := if_neg (by rw [show zay 150 = false by kernel_rfl]; simp)
theorem q151 {a : List zab} {m : Tr zak} {R : zao} : Wq C13 F zay 151 a m R = Wc C13 F 151 a m R := if_neg (by rw [show zay 151 = false by kernel_rfl]; simp)
theorem q152 {a : List zab} {m : Tr zak} {R : zao} : Wq C13 F zay 152 a m R = Wc C13 F 152 a m R := if_neg (by rw [show zay 152 = false by kernel_rfl]; simp)
theorem q153 {a : List zab} {m : Tr zak} {R : zao} : Wq C13 F zay 153 a m R = Wc C13 F 153 a m R := if_neg (by rw [show zay 153 = false by kernel_rfl]; simp)
theorem q155 {a : List zab} {m : Tr zak} {R : zao} : Wq C13 F zay 155 a m R = zcf (pvC C13 F 155 a m) (fun v => R v m) := if_pos (by kernel_rfl)
theorem q156 {a : List zab} {m : Tr zak} {R : zao} : Wq C13 F zay 156 a m R = zcf (pvC C13 F 156 a m) (fun v => R v m) := if_pos (by kernel_rfl)
theorem q157 {a : List zab} {m : Tr zak} {R : zao} : Wq C13 F zay 157 a m R = Wc C13 F 157 a m R := if_neg (by rw [show zay 157 = false by kernel_rfl]; simp)
theorem q158 {a : List zab} {m : Tr zak} {R : zao} : Wq C13 F zay 158 a m R = zcf (pvC C13 F 158 a m) (fun v => R v m) := if_pos (by kernel_rfl)
theorem q159 {a : List zab} {m : Tr zak} {R : zao} : Wq C13 F zay 159 a m R = zcf (pvC C13 F 159 a m) (fun v => R v m) := if_pos (by kernel_rfl)
theorem q160 {a : List zab} {m : Tr zak} {R : zao} : Wq C13 F zay 160 a m R = zcf (pvC C13 F 160 a m) (fun v => R v m) := if_pos (by kernel_rfl)
theorem q172 {a : List zab} {m : Tr zak} {R : zao} : Wq C13 F zay 172 a m R = Wc C13 F 172 a m R := if_neg (by rw [show zay 172 = false by kernel_rfl]; simp)
theorem q173 {a : List zab} {m : Tr zak} {R : zao} : Wq C13 F zay 173 a m R = zcf (pvC C13 F 173 a m) (fun v => R v m) := if_pos (by kernel_rfl)
theorem q174 {a : List zab} {m : Tr zak} {R : zao} : Wq C13 F zay 174 a m R = zcf (pvC C13 F 174 a m) (fun v => R v m) := if_pos (by kernel_rfl)
theorem q175 {a : List zab} {m : Tr zak} {R : zao} : Wq C13 F zay 175 a m R = Wc C13 F 175 a m R := if_neg (by rw [show zay 175 = false by kernel_rfl]; simp)
theorem q177 {a : List zab} {m : Tr zak} {R : zao} : Wq C13 F zay 177 a m R = zcf (pvC C13 F 177 a m) (fun v => R v m) := if_pos (by kernel_rfl)
theorem q192 {a : List zab} {m : Tr zak} {R : zao} : Wq C13 F zay 192 a m R = zcf (pvC C13 F 192 a m) (fun v => R v m) := if_pos (by kernel_rfl)
theorem q193 {a : List zab} {m : Tr zak} {R : zao} : Wq C13 F zay 193 a m R = Wc C13 F 193 a m R := if_neg (by rw [show zay 193 = false by kernel_rfl]; simp)
theorem q194 {a : List zab} {m : Tr zak} {R : zao} : Wq C13 F zay 194 a m R = Wc C13 F 194 a m R := if_neg (by rw [show zay 194 = false by kernel_rfl]; simp)
theorem q203 {a : List zab} {m : Tr zak} {R : zao} : Wq C13 F zay 203 a m R = zcf (pvC C13 F 203 a m) (fun v => R v m) := if_pos (by kernel_rfl)
theorem q204 {a : List zab} {m : Tr zak} {R : zao} : Wq C13 F zay 204 a m R = Wc C13 F 204 a m R := if_neg (by rw [show zay 204 = false by kernel_rfl]; simp)
theorem q205 {a : List zab} {m : Tr zak} {R : zao} : Wq C13 F zay 205 a m R = Wc C13 F 205 a m R := if_neg (by rw [show zay 205 = false by kernel_rfl]; simp)
theorem q206 {a : List zab} {m : Tr zak} {R : zao} : Wq C13 F zay 206 a m R = Wc C13 F 206 a m R := if_neg (by rw [show zay 206 = false by kernel_rfl]; simp)
theorem q207 {a : List zab} {m : Tr zak} {R : zao} : Wq C13 F zay 207 a m R = zcf (pvC C13 F 207 a m) (fun v => R v m) := if_pos (by kernel_rfl)
theorem q208 {a : List zab} {m : Tr zak} {R : zao} : Wq C13 F zay 208 a m R = Wc C13 F 208 a m R := if_neg (by rw [show zay 208 = false by kernel_rfl]; simp)
theorem q212 {a : List zab} {m : Tr zak} {R : zao} : Wq C13 F zay 212 a m R = zcf (pvC C13 F 212 a m) (fun v => R v m) := if_pos (by kernel_rfl)
theorem q213 {a : List zab} {m : Tr zak} {R : zao} : Wq C13 F zay 213 a m R = zcf (pvC C13 F 213 a m) (fun v => R v m) := if_pos (by kernel_rfl)
theorem q214 {a : List zab} {m : Tr zak} {R : zao} : Wq C13 F zay 214 a m R = Wc C13 F 214 a m R := if_neg (by rw [show zay 214 = false by kernel_rfl]; simp)
theorem q215 {a : List zab} {m : Tr zak} {R : zao} : Wq C13 F zay 215 a m R = Wc C13 F 215 a m R := if_neg (by rw [show zay 215 = false by kernel_rfl]; simp)
theorem q216 {a : List zab} {m : Tr zak} {R : zao} : Wq C13 F zay 216 a m R = Wc C13 F 216 a m R := if_neg (by rw [show zay 216 = false by kernel_rfl]; simp)
theorem q217 {a : List zab} {m : Tr zak} {R : zao} : Wq C13 F zay 217 a m R = zcf (pvC C13 F 217 a m) (fun v => R v m) := if_pos (by kernel_rfl)
theorem q219 {a : List zab} {m : Tr zak} {R : zao} : Wq C13 F zay 219 a m R = zcf (pvC C13 F 219 a m) (fun v => R v m) := if_pos (by kernel_rfl)
theorem q220 {a : List zab} {m : Tr zak} {R : zao} : Wq C13 F zay 220 a m R = zcf (pvC C13 F 220 a m) (fun v => R v m) := if_pos (by kernel_rfl)
theorem q221 {a : List zab} {m : Tr zak} {R : zao} : Wq C13 F zay 221 a m R = zcf (pvC C13 F 221 a m) (fun v => R v m) := if_pos (by kernel_rfl)
theorem q6 {a : List zab} {m : Tr zak} {R : zao} : Wq C13 F zay 6 a m R = zcf (pvC C13 F 6 a m) (fun v => R v m) := if_pos (by kernel_rfl)
theorem q98 {a : List zab} {m : Tr zak} {R : zao} : Wq C13 F zay 98 a m R = zcf (pvC C13 F 98 a m) (fun v => R v m) := if_pos (by kernel_rfl)
theorem q154 {a : List zab} {m : Tr zak} {R : zao} : Wq C13 F zay 154 a m R = zcf (pvC C13 F 154 a m) (fun v => R v m) := if_pos (by kernel_rfl)
theorem q46 {a : List zab} {m : Tr zak} {R : zao} : Wq C13 F zay 46 a m R = Wc C13 F 46 a m R := if_neg (by rw [show zay 46 = false by kernel_rfl]; simp)
theorem q25 {a : List zab} {m : Tr zak} {R : zao} : Wq C13 F zay 25 a m R = Wc C13 F 25 a m R := if_neg (by rw [show zay 25 = false by kernel_rfl]; simp)
theorem q113 {a : List zab} {m : Tr zak} {R : zao} : Wq C13 F zay 113 a m R = zcf (pvC C13 F 113 a m) (fun v => R v m) := if_pos (by kernel_rfl)
theorem zzkn : zl9 C13 (zez F) := z6z (by
 simp only [FL, List.forall_mem_cons]; exact ⟨zaw (fn := Tryz.f4) (c := b4) (by kernel_rfl) (by kernel_rfl) (by kernel_rfl), zaw (fn := Tryz.f10) (c := b10) (by kernel_rfl) (by kernel_rfl) (by kernel_rfl), zaw (fn := Tryz.f11) (c := b11) (by kernel_rfl) (by kernel_rfl) (by kernel_rfl), zaw (fn := Tryz.f17) (c := b17) (by kernel_rfl) (by kernel_rfl) (by kernel_rfl), zaw (fn := Tryz.f18) (c := b18) (by kernel_rfl) (by kernel_rfl) (by kernel_rfl), zaw (fn := Tryz.f22) (c := b22) (by kernel_rfl) (by kernel_rfl) (by kernel_rfl), zaw (fn := Tryz.f23) (c := b23) (by kernel_rfl) (by kernel_rfl) (by kernel_rfl), zaw (fn := Tryz.f24) (c := b24) (by kernel_rfl) (by kernel_rfl) (by kernel_rfl), zaw (fn := Tryz.f26) (c := b26) (by kernel_rfl) (by kernel_rfl) (by kernel_rfl), zaw (fn := Tryz.f27) (c := b27) (by kernel_rfl) (by kernel_rfl) (by kernel_rfl), zaw (fn := Tryz.f37) (c := b37) (by kernel_rfl) (by kernel_rfl) (by kernel_rfl), zaw (fn := Tryz.f38) (c := b38) (by kernel_rfl) (by kernel_rfl) (by kernel_rfl), zaw (fn := Tryz.f39) (c := b39) (by kernel_rfl) (by kernel_rfl) (by kernel_rfl), zaw (fn := Tryz.f42) (c := b42) (by kernel_rfl) (by kernel_rfl) (by kernel_rfl), zaw (fn := Tryz.f44) (c := b44) (by kernel_rfl) (by kernel_rfl) (by kernel_rfl), zaw (fn := Tryz.f47) (c := b47) (by kernel_rfl) (by kernel_rfl) (by kernel_rfl), zaw (fn := Tryz.f48) (c := b48) (by kernel_rfl) (by kernel_rfl) (by kernel_rfl), zaw (fn := Tryz.f49) (c := b49) (by kernel_rfl) (by kernel_rfl) (by kernel_rfl), zaw (fn := Tryz.f50) (c := b50) (by kernel_rfl) (by kernel_rfl) (by kernel_rfl), zaw (fn := Tryz.f51) (c := b51) (by kernel_rfl) (by kernel_rfl) (by kernel_rfl), zaw (fn := Tryz.f52) (c := b52) (by kernel_rfl) (by kernel_rfl) (by kernel_rfl), zaw (fn := Tryz.f53) (c := b53) (by kernel_rfl) (by kernel_rfl) (by kernel_rfl), zaw (fn := Tryz.f54) (c := b54) (by kernel_rfl) (by kernel_rfl) (by kernel_rfl), zaw (fn := Tryz.f55) (c := b55) (by kernel_rfl) (by kernel_rfl) (by kernel_rfl), zaw (fn := Tryz.f57) (c := b57) (by kernel_rfl) (by kernel_rfl) (by kernel_rfl), zaw (fn := Tryz.f58) (c := b58) (by kernel_rfl) (by kernel_rfl) (by kernel_rfl), zaw (fn := Tryz.f59) (c := b59) (by kernel_rfl) (by kernel_rfl) (by kernel_rfl), zaw (fn := Tryz.f76) (c := b76) (by kernel_rfl) (by kernel_rfl) (by kernel_rfl), zaw (fn := Tryz.f77) (c := b77) (by kernel_rfl) (by kernel_rfl) (by kernel_rfl), zaw (fn := Tryz.f78) (c := b78) (by kernel_rfl) (by kernel_rfl) (by kernel_rfl), zaw (fn := Tryz.f79) (c := b79) (by kernel_rfl) (by kernel_rfl) (by kernel_rfl), zaw (fn := Tryz.f80) (c := b80) (by kernel_rfl) (by kernel_rfl) (by kernel_rfl), zaw (fn := Tryz.f81) (c := b81) (by kernel_rfl) (by kernel_rfl) (by kernel_rfl), zaw (fn := Tryz.f82) (c := b82) (by kernel_rfl) (by kernel_rfl) (by kernel_rfl), zaw (fn := Tryz.f87) (c := b87) (by kernel_rfl) (by kernel_rfl) (by kernel_rfl), zaw (fn := Tryz.f88) (c := b88) (by kernel_rfl) (by kernel_rfl) (by kernel_rfl), zaw (fn := Tryz.f89) (c := b89) (by kernel_rfl) (by kernel_rfl) (by kernel_rfl), zaw (fn := Tryz.f90) (c := b90) (by kernel_rfl) (by kernel_rfl) (by kernel_rfl), zaw (fn := Tryz.f91) (c := b91) (by kernel_rfl) (by kernel_rfl) (by kernel_rfl), zaw (fn := Tryz.f92) (c := b92) (by kernel_rfl) (by kernel_rfl) (by kernel_rfl), zaw (fn := Tryz.f93) (c := b93) (by kernel_rfl) (by kernel_rfl) (by kernel_rfl), zaw (fn := Tryz.f95) (c := b95) (by kernel_rfl) (by kernel_rfl) (by kernel_rfl), zaw (fn := Tryz.f96) (c := b96) (by kernel_rfl) (by kernel_rfl) (by kernel_rfl), zaw (fn := Tryz.f97) (c := b97) (by kernel_rfl) (by kernel_rfl) (by kernel_rfl), zaw (fn := Tryz.f112) (c := b112) (by kernel_rfl) (by kernel_rfl) (by kernel_rfl), zaw (fn := Tryz.f116) (c := b116) (by kernel_rfl) (by kernel_rfl) (by kernel_rfl), zaw (fn := Tryz.f117) (c := b117) (by kernel_rfl) (by kernel_rfl) (by kernel_rfl), zaw (fn := Tryz.f118) (c := b118) (by kernel_rfl) (by kernel_rfl) (by kernel_rfl), zaw (fn := Tryz.f119) (c := b119) (by kernel_rfl) (by kernel_rfl) (by kernel_rfl), zaw (fn := Tryz.f120) (c := b120) (by kernel_rfl) (by kernel_rfl) (by kernel_rfl), zaw (fn := Tryz.f121) (c := b121) (by kernel_rfl) (by kernel_rfl) (by kernel_rfl), zaw (fn := Tryz.f122) (c := b122) (by kernel_rfl) (by kernel_rfl) (by kernel_rfl), zaw (fn := Tryz.f123) (c := b123) (by kernel_rfl) (by kernel_rfl) (by kernel_rfl), zaw (fn := Tryz.f147) (c := b147) (by kernel_rfl) (by kernel_rfl) (by kernel_rfl), zaw (fn := Tryz.f148) (c := b148) (by kernel_rfl) (by kernel_rfl) (by kernel_rfl), zaw (fn := Tryz.f149) (c := b149) (by kernel_rfl) (by kernel_rfl) (by kernel_rfl), zaw (fn := Tryz.f150) (c := b150) (by kernel_rfl) (by kernel_rfl) (by kernel_rfl), zaw (fn := Tryz.f151) (c := b151) (by kernel_rfl) (by kernel_rfl) (by kernel_rfl), zaw (fn := Tryz.f152) (c := b152) (by kernel_rfl) (by kernel_rfl) (by kernel_rfl), zaw (fn := Tryz.f153) (c := b153) (by kernel_rfl) (by kernel_rfl) (by kernel_rfl), zaw (fn := Tryz.f155) (c := b155) (by kernel_rfl) (by kernel_rfl) (by kernel_rfl), zaw (fn := Tryz.f156) (c := b156) (by kernel_rfl) (by kernel_rfl) (by kernel_rfl), zaw (fn := Tryz.f157) (c := b157) (by kernel_rfl) (by kernel_rfl) (by kernel_rfl), zaw (fn := Tryz.f158) (c := b158) (by kernel_rfl) (by kernel_rfl) (by kernel_rfl), zaw (fn := Tryz.f159) (c := b159) (by kernel_rfl) (by kernel_rfl) (by kernel_rfl), zaw (fn := Tryz.f160) (c := b160) (by kernel_rfl) (by kernel_rfl) (by kernel_rfl), zaw (fn := Tryz.f172) (c := b172) (by kernel_rfl) (by kernel_rfl) (by kernel_rfl), zaw (fn := Tryz.f173) (c := b173) (by kernel_rfl) (by kernel_rfl) (by kernel_rfl), zaw (fn := Tryz.f174) (c := b174) (by kernel_rfl) (by kernel_rfl) (by kernel_rfl), zaw (fn := Tryz.f175) (c := b175) (by kernel_rfl) (by kernel_rfl) (by kernel_rfl), zaw (fn := Tryz.f177) (c := b177) (by kernel_rfl) (by kernel_rfl) (by kernel_rfl), zaw (fn := Tryz.f192) (c := b192) (by kernel_rfl) (by kernel_rfl) (by kernel_rfl), zaw (fn := Tryz.f193) (c := b193) (by kernel_rfl) (by kernel_rfl) (by kernel_rfl), zaw (fn := Tryz.f194) (c := b194) (by kernel_rfl) (by kernel_rfl) (by kernel_rfl), zaw (fn := Tryz.f203) (c := b203) (by kernel_rfl) (by kernel_rfl) (by kernel_rfl), zaw (fn := Tryz.f204) (c := b204) (by kernel_rfl) (by kernel_rfl) (by kernel_rfl), zaw (fn := Tryz.f205) (c := b205) (by kernel_rfl) (by kernel_rfl) (by kernel_rfl), zaw (fn := Tryz.f206) (c := b206) (by kernel_rfl) (by kernel_rfl) (by kernel_rfl), zaw (fn := Tryz.f207) (c := b207) (by kernel_rfl) (by kernel_rfl) (by kernel_rfl), zaw (fn := Tryz.f208) (c := b208) (by kernel_rfl) (by kernel_rfl) (by kernel_rfl), zaw (fn := Tryz.f212) (c := b212) (by kernel_rfl) (by kernel_rfl) (by kernel_rfl), zaw (fn := Tryz.f213) (c := b213) (by kernel_rfl) (by kernel_rfl) (by kernel_rfl), zaw (fn := Tryz.f214) (c := b214) (by kernel_rfl) (by kernel_rfl) (by kernel_rfl), zaw (fn := Tryz.f215) (c := b215) (by kernel_rfl) (by kernel_rfl) (by kernel_rfl), zaw (fn := Tryz.f216) (c := b216) (by kernel_rfl) (by kernel_rfl) (by kernel_rfl), zaw (fn := Tryz.f217) (c := b217) (by kernel_rfl) (by kernel_rfl) (by kernel_rfl), zaw (fn := Tryz.f219) (c := b219) (by kernel_rfl) (by kernel_rfl) (by kernel_rfl), zaw (fn := Tryz.f220) (c := b220) (by kernel_rfl) (by kernel_rfl) (by kernel_rfl), zaw (fn := Tryz.f221) (c := b221) (by kernel_rfl) (by kernel_rfl) (by kernel_rfl), by simp⟩)
end Go.Proofs
