/- The functions of this seat with their points. (Printed by a tool.) -/
import Derived.KernelRfl
import Derived.Test.YtbgilkcahebbfaaGreatDoorA18
set_option linter.all false
noncomputable section
set_option maxRecDepth 100000
namespace Go.Proofs
open Go Go.Am
variable [zc6]
def bd (f : Func) : Code := match f.body with | some b => b | none => .skip
def b5 := bd Tryz.f5
def a5 : zcq := ⟨zb7 [(5, ⟨11, [0], []⟩), (12, ⟨25, [0, 3], []⟩)] [(0, ⟨2, [0, 3, 4], []⟩), (2, ⟨6, [0, 3, 6], [(5, 4)]⟩)] 0 b5, [5]⟩
def b12 := bd Tryz.f12
def a12 : zcq := ⟨zb7 [] [] 0 b12, [1]⟩
def b27 := bd Tryz.f27
def a27 : zcq := ⟨zb7 [] [] 0 b27, [1]⟩
def b28 := bd Tryz.f28
def a28 : zcq := ⟨zb7 [] [] 0 b28, [1]⟩
def b53 := bd Tryz.f53
def a53 : zcq := ⟨zb7 [] [] 0 b53, [1]⟩
def b54 := bd Tryz.f54
def a54 : zcq := ⟨zb7 [] [] 0 b54, [1]⟩
def b55 := bd Tryz.f55
def a55 : zcq := ⟨zb7 [] [] 0 b55, []⟩
def b56 := bd Tryz.f56
def a56 : zcq := ⟨zb7 [] [] 0 b56, []⟩
def b57 := bd Tryz.f57
def a57 : zcq := ⟨zb7 [] [] 0 b57, [1]⟩
def b59 := bd Tryz.f59
def a59 : zcq := ⟨zb7 [] [] 0 b59, []⟩
def b91 := bd Tryz.f91
def a91 : zcq := ⟨zb7 [] [] 0 b91, [1]⟩
def b92 := bd Tryz.f92
def a92 : zcq := ⟨zb7 [] [] 0 b92, [1]⟩
def b93 := bd Tryz.f93
def a93 : zcq := ⟨zb7 [] [] 0 b93, []⟩
def b94 := bd Tryz.f94
def a94 : zcq := ⟨zb7 [] [] 0 b94, []⟩
def b95 := bd Tryz.f95
def a95 : zcq := ⟨zb7 [] [] 0 b95, []⟩
def b116 := bd Tryz.f116
def a116 : zcq := ⟨zb7 [] [] 0 b116, [1]⟩
def b117 := bd Tryz.f117
def a117 : zcq := ⟨zb7 [(14, ⟨29, [2, 3, 4, 8], []⟩)] [(0, ⟨2, [2, 3, 4, 5], [(1, 2)]⟩), (2, ⟨6, [8], []⟩), (4, ⟨10, [8, 10, 61, 62], []⟩)] 0 b117, [1]⟩
def b118 := bd Tryz.f118
def a118 : zcq := ⟨zb7 [] [] 0 b118, [1]⟩
def b119 := bd Tryz.f119
def a119 : zcq := ⟨zb7 [] [] 0 b119, []⟩
def b120 := bd Tryz.f120
def a120 : zcq := ⟨zb7 [] [] 0 b120, []⟩
def b147 := bd Tryz.f147
def a147 : zcq := ⟨zb7 [] [] 0 b147, [1]⟩
def b148 := bd Tryz.f148
def a148 : zcq := ⟨zb7 [] [] 0 b148, [1]⟩
def b149 := bd Tryz.f149
def a149 : zcq := ⟨zb7 [] [] 0 b149, [1]⟩
def b150 := bd Tryz.f150
def a150 : zcq := ⟨zb7 [] [] 0 b150, [2, 3, 4, 5]⟩
def b151 := bd Tryz.f151
def a151 : zcq := ⟨zb7 [] [(0, ⟨2, [3, 11, 12, 13], []⟩)] 0 b151, []⟩
def b152 := bd Tryz.f152
def a152 : zcq := ⟨zb7 [] [(0, ⟨2, [0, 1, 6, 7, 8], []⟩)] 0 b152, []⟩
def b153 := bd Tryz.f153
def a153 : zcq := ⟨zb7 [] [] 0 b153, []⟩
def b155 := bd Tryz.f155
def a155 : zcq := ⟨zb7 [] [] 0 b155, []⟩
def b156 := bd Tryz.f156
def a156 : zcq := ⟨zb7 [] [] 0 b156, []⟩
def b172 := bd Tryz.f172
def a172 : zcq := ⟨zb7 [] [] 0 b172, [2, 3, 4]⟩
def b173 := bd Tryz.f173
def a173 : zcq := ⟨zb7 [(3, ⟨7, [0, 1, 2], []⟩)] [] 0 b173, []⟩
def b174 := bd Tryz.f174
def a174 : zcq := ⟨zb7 [] [(0, ⟨2, [0], []⟩)] 0 b174, []⟩
def b175 := bd Tryz.f175
def a175 : zcq := ⟨zb7 [] [(0, ⟨2, [0, 1, 3], []⟩)] 0 b175, []⟩
def b192 := bd Tryz.f192
def a192 : zcq := ⟨zb7 [] [(0, ⟨2, [5, 6, 7], []⟩)] 0 b192, [4]⟩
def b193 := bd Tryz.f193
def a193 : zcq := ⟨zb7 [] [(0, ⟨2, [0, 5, 18, 19, 20], [(4, 2)]⟩)] 0 b193, [4]⟩
def b194 := bd Tryz.f194
def a194 : zcq := ⟨zb7 [(16, ⟨33, [0, 1], []⟩)] [(0, ⟨2, [0, 1], []⟩), (2, ⟨6, [10, 11], []⟩)] 0 b194, [5]⟩
def b203 := bd Tryz.f203
def a203 : zcq := ⟨zb7 [] [(0, ⟨2, [0, 1, 5], []⟩)] 0 b203, []⟩
def b204 := bd Tryz.f204
def a204 : zcq := ⟨zb7 [] [(0, ⟨2, [7, 8, 10, 11], [(4, 5), (9, 5)]⟩)] 0 b204, [4, 9]⟩
def b205 := bd Tryz.f205
def a205 : zcq := ⟨zb7 [] [(0, ⟨2, [8, 9, 10, 11, 12, 13], []⟩), (2, ⟨6, [8, 9, 11, 12, 77, 78], []⟩)] 0 b205, []⟩
def b206 := bd Tryz.f206
def a206 : zcq := ⟨zb7 [(8, ⟨17, [0, 1, 2, 3, 9, 10, 11, 12, 13, 22, 23], []⟩), (10, ⟨21, [0, 1, 2, 3, 9, 10, 11, 12, 13, 22, 23], []⟩)] [(0, ⟨2, [0, 1, 2, 3, 9, 10, 11, 12, 22, 23], []⟩)] 0 b206, []⟩
def b208 := bd Tryz.f208
def a208 : zcq := ⟨zb7 [] [] 0 b208, []⟩
def b212 := bd Tryz.f212
def a212 : zcq := ⟨zb7 [] [] 0 b212, []⟩
def b213 := bd Tryz.f213
def a213 : zcq := ⟨zb7 [] [] 0 b213, []⟩
def b214 := bd Tryz.f214
def a214 : zcq := ⟨zb7 [] [] 0 b214, []⟩
def b215 := bd Tryz.f215
def a215 : zcq := ⟨zb7 [] [(0, ⟨2, [1, 5, 13, 14, 15], []⟩)] 0 b215, []⟩
def b216 := bd Tryz.f216
def a216 : zcq := ⟨zb7 [(9, ⟨19, [0, 1, 5, 8], []⟩)] [(0, ⟨2, [0, 1, 5, 7, 8, 9], []⟩), (2, ⟨6, [0, 1, 5, 8, 10, 11, 76, 77, 78], []⟩), (4, ⟨10, [0, 5, 8, 17, 129, 130, 131], []⟩)] 0 b216, []⟩
def b217 := bd Tryz.f217
def a217 : zcq := ⟨zb7 [] [] 0 b217, []⟩
def b219 := bd Tryz.f219
def a219 : zcq := ⟨zb7 [(4, ⟨9, [0, 2], []⟩), (7, ⟨15, [0, 2], []⟩)] [] 0 b219, []⟩
def b220 := bd Tryz.f220
def a220 : zcq := ⟨zb7 [] [] 0 b220, []⟩
def b221 := bd Tryz.f221
def a221 : zcq := ⟨zb7 [] [] 0 b221, []⟩
def b207 := bd Tryz.f207
def a207 : zcq := ⟨zb7 [] [(0, ⟨2, [3], []⟩)] 0 b207, []⟩
def FL : List (Nat × zcq) := [(5, a5), (12, a12), (27, a27), (28, a28), (53, a53), (54, a54), (55, a55), (56, a56), (57, a57), (59, a59), (91, a91), (92, a92), (93, a93), (94, a94), (95, a95), (116, a116), (117, a117), (118, a118), (119, a119), (120, a120), (147, a147), (148, a148), (149, a149), (150, a150), (151, a151), (152, a152), (153, a153), (155, a155), (156, a156), (172, a172), (173, a173), (174, a174), (175, a175), (192, a192), (193, a193), (194, a194), (203, a203), (204, a204), (205, a205), (206, a206), (208, a208), (212, a212), (213, a213), (214, a214), (215, a215), (216, a216), (217, a217), (219, a219), (220, a220), (221, a221), (207, a207)]
def F : Tr zcq := tabF FL
def zbb (f : Nat) : Bool := zb1 f [12, 27, 28, 53, 54, 55, 56, 57, 58, 59, 91, 92, 93, 94, 95, 96, 97, 116, 117, 118, 119, 120, 121, 122, 123, 147, 148, 149, 155, 156, 158, 159, 160, 173, 174, 177, 192, 203, 212, 213, 217, 219, 220, 221, 207, 6, 98, 154]
abbrev wp (f : Nat) (T : T) (m : Tr zam) (Q : zay) : Prop := wpT C13.base (Wq C13 F zbb) (Jq C13 F f) T m Q
abbrev Wf (f : Nat) (a : List zab) (m : Tr zam) (Q : zay) : Prop := Wc C13 F f a m Q
abbrev jp (f i : Nat) (a : List zab) (m : Tr zam) (Q : zay) : Prop := Jq C13 F f i a m Q
abbrev pv (f : Nat) (a : List zab) (m : Tr zam) : Option zab := pvC C13 F f a m
theorem ok5 : zeb C13 F 5 Tryz.f5 15 a5 := by constructor <;> kernel_rfl
theorem ok12 : zeb C13 F 12 Tryz.f12 4 a12 := by constructor <;> kernel_rfl
theorem ok27 : zeb C13 F 27 Tryz.f27 42 a27 := by constructor <;> kernel_rfl
theorem ok28 : zeb C13 F 28 Tryz.f28 34 a28 := by constructor <;> kernel_rfl
theorem ok53 : zeb C13 F 53 Tryz.f53 5 a53 := by constructor <;> kernel_rfl
theorem ok54 : zeb C13 F 54 Tryz.f54 3 a54 := by constructor <;> kernel_rfl
theorem ok55 : zeb C13 F 55 Tryz.f55 3 a55 := by constructor <;> kernel_rfl
theorem ok56 : zeb C13 F 56 Tryz.f56 3 a56 := by constructor <;> kernel_rfl
theorem ok57 : zeb C13 F 57 Tryz.f57 5 a57 := by constructor <;> kernel_rfl
theorem ok59 : zeb C13 F 59 Tryz.f59 3 a59 := by constructor <;> kernel_rfl
theorem ok91 : zeb C13 F 91 Tryz.f91 3 a91 := by constructor <;> kernel_rfl
theorem ok92 : zeb C13 F 92 Tryz.f92 8 a92 := by constructor <;> kernel_rfl
theorem ok93 : zeb C13 F 93 Tryz.f93 5 a93 := by constructor <;> kernel_rfl
theorem ok94 : zeb C13 F 94 Tryz.f94 3 a94 := by constructor <;> kernel_rfl
theorem ok95 : zeb C13 F 95 Tryz.f95 5 a95 := by constructor <;> kernel_rfl
theorem ok116 : zeb C13 F 116 Tryz.f116 3 a116 := by constructor <;> kernel_rfl
theorem z6x : zeb C13 F 117 Tryz.f117 63 a117 := by constructor <;> kernel_rfl
theorem ok118 : zeb C13 F 118 Tryz.f118 3 a118 := by constructor <;> kernel_rfl
theorem ok119 : zeb C13 F 119 Tryz.f119 5 a119 := by constructor <;> kernel_rfl
theorem ok120 : zeb C13 F 120 Tryz.f120 6 a120 := by constructor <;> kernel_rfl
theorem ok147 : zeb C13 F 147 Tryz.f147 3 a147 := by constructor <;> kernel_rfl
theorem ok148 : zeb C13 F 148 Tryz.f148 4 a148 := by constructor <;> kernel_rfl
theorem ok149 : zeb C13 F 149 Tryz.f149 3 a149 := by constructor <;> kernel_rfl
theorem ok150 : zeb C13 F 150 Tryz.f150 7 a150 := by constructor <;> kernel_rfl
theorem ok151 : zeb C13 F 151 Tryz.f151 14 a151 := by constructor <;> kernel_rfl
theorem ok152 : zeb C13 F 152 Tryz.f152 9 a152 := by constructor <;> kernel_rfl
theorem ok153 : zeb C13 F 153 Tryz.f153 3 a153 := by constructor <;> kernel_rfl
theorem ok155 : zeb C13 F 155 Tryz.f155 5 a155 := by constructor <;> kernel_rfl
theorem ok156 : zeb C13 F 156 Tryz.f156 6 a156 := by constructor <;> kernel_rfl
theorem ok172 : zeb C13 F 172 Tryz.f172 6 a172 := by constructor <;> kernel_rfl
theorem ok173 : zeb C13 F 173 Tryz.f173 9 a173 := by constructor <;> kernel_rfl
theorem ok174 : zeb C13 F 174 Tryz.f174 3 a174 := by constructor <;> kernel_rfl
theorem ok175 : zeb C13 F 175 Tryz.f175 4 a175 := by constructor <;> kernel_rfl
theorem ok192 : zeb C13 F 192 Tryz.f192 8 a192 := by constructor <;> kernel_rfl
theorem ok193 : zeb C13 F 193 Tryz.f193 21 a193 := by constructor <;> kernel_rfl
theorem zzbi : zeb C13 F 194 Tryz.f194 12 a194 := by constructor <;> kernel_rfl
theorem ok203 : zeb C13 F 203 Tryz.f203 6 a203 := by constructor <;> kernel_rfl
theorem ok204 : zeb C13 F 204 Tryz.f204 14 a204 := by constructor <;> kernel_rfl
theorem zzfd : zeb C13 F 205 Tryz.f205 79 a205 := by constructor <;> kernel_rfl
theorem zzbh : zeb C13 F 206 Tryz.f206 24 a206 := by constructor <;> kernel_rfl
theorem ok208 : zeb C13 F 208 Tryz.f208 3 a208 := by constructor <;> kernel_rfl
theorem ok212 : zeb C13 F 212 Tryz.f212 3 a212 := by constructor <;> kernel_rfl
theorem ok213 : zeb C13 F 213 Tryz.f213 8 a213 := by constructor <;> kernel_rfl
theorem ok214 : zeb C13 F 214 Tryz.f214 3 a214 := by constructor <;> kernel_rfl
theorem ok215 : zeb C13 F 215 Tryz.f215 16 a215 := by constructor <;> kernel_rfl
theorem z6w : zeb C13 F 216 Tryz.f216 132 a216 := by constructor <;> kernel_rfl
theorem ok217 : zeb C13 F 217 Tryz.f217 8 a217 := by constructor <;> kernel_rfl
theorem zzfc : zeb C13 F 219 Tryz.f219 3 a219 := by constructor <;> kernel_rfl
theorem ok220 : zeb C13 F 220 Tryz.f220 4 a220 := by constructor <;> kernel_rfl
theorem ok221 : zeb C13 F 221 Tryz.f221 9 a221 := by constructor <;> kernel_rfl
theorem ok207 : zeb C13 F 207 Tryz.f207 8 a207 := by constructor <;> kernel_rfl
theorem q12 {a : List zab} {m : Tr zam} {R : zay} : Wq C13 F zbb 12 a m R = zd0 (pvC C13 F 12 a m) (fun v => R v m) := if_pos (by kernel_rfl)
theorem q27 {a : List zab} {m : Tr zam} {R : zay} : Wq C13 F zbb 27 a m R = zd0 (pvC C13 F 27 a m) (fun v => R v m) := if_pos (by kernel_rfl)
theorem q28 {a : List zab} {m : Tr zam} {R : zay} : Wq C13 F zbb 28 a m R = zd0 (pvC C13 F 28 a m) (fun v => R v m) := if_pos (by kernel_rfl)
theorem q53 {a : List zab} {m : Tr zam} {R : zay} : Wq C13 F zbb 53 a m R = zd0 (pvC C13 F 53 a m) (fun v => R v m) := if_pos (by kernel_rfl)
theorem q54 {a : List zab} {m : Tr zam} {R : zay} : Wq C13 F zbb 54 a m R = zd0 (pvC C13 F 54 a m) (fun v => R v m) := if_pos (by kernel_rfl)
theorem q55 {a : List zab} {m : Tr zam} {R : zay} : Wq C13 F zbb 55 a m R = zd0 (pvC C13 F 55 a m) (fun v => R v m) := if_pos (by kernel_rfl)
theorem q56 {a : List zab} {m : Tr zam} {R : zay} : Wq C13 F zbb 56 a m R = zd0 (pvC C13 F 56 a m) (fun v => R v m) := if_pos (by kernel_rfl)
theorem q57 {a : List zab} {m : Tr zam} {R : zay} : Wq C13 F zbb 57 a m R = zd0 (pvC C13 F 57 a m) (fun v => R v m) := if_pos (by kernel_rfl)
theorem q58 {a : List zab} {m : Tr zam} {R : zay} : Wq C13 F zbb 58 a m R = zd0 (pvC C13 F 58 a m) (fun v => R v m) := if_pos (by kernel_rfl)
theorem q59 {a : List zab} {m : Tr zam} {R : zay} : Wq C13 F zbb 59 a m R = zd0 (pvC C13 F 59 a m) (fun v => R v m) := if_pos (by kernel_rfl)
theorem q91 {a : List zab} {m : Tr zam} {R : zay} : Wq C13 F zbb 91 a m R = zd0 (pvC C13 F 91 a m) (fun v => R v m) := if_pos (by kernel_rfl)
theorem q92 {a : List zab} {m : Tr zam} {R : zay} : Wq C13 F zbb 92 a m R = zd0 (pvC C13 F 92 a m) (fun v => R v m) := if_pos (by kernel_rfl)
theorem q93 {a : List zab} {m : Tr zam} {R : zay} : Wq C13 F zbb 93 a m R = zd0 (pvC C13 F 93 a m) (fun v => R v m) := if_pos (by kernel_rfl)
theorem q94 {a : List zab} {m : Tr zam} {R : zay} : Wq C13 F zbb 94 a m R = zd0 (pvC C13 F 94 a m) (fun v => R v m) := if_pos (by kernel_rfl)
theorem q95 {a : List zab} {m : Tr zam} {R : zay} : Wq C13 F zbb 95 a m R = zd0 (pvC C13 F 95 a m) (fun v => R v m) := if_pos (by kernel_rfl)
theorem q116 {a : List zab} {m : Tr zam} {R : zay} : Wq C13 F zbb 116 a m R = zd0 (pvC C13 F 116 a m) (fun v => R v m) := if_pos (by kernel_rfl)
theorem q117 {a : List zab} {m : Tr zam} {R : zay} : Wq C13 F zbb 117 a m R = zd0 (pvC C13 F 117 a m) (fun v => R v m) := if_pos (by kernel_rfl)
theorem q118 {a : List zab} {m : Tr zam} {R : zay} : Wq C13 F zbb 118 a m R = zd0 (pvC C13 F 118 a m) (fun v => R v m) := if_pos (by kernel_rfl)
theorem q119 {a : List zab} {m : Tr zam} {R : zay} : Wq C13 F zbb 119 a m R = zd0 (pvC C13 F 119 a m) (fun v => R v m) := if_pos (by kernel_rfl)
theorem q120 {a : List zab} {m : Tr zam} {R : zay} : Wq C13 F zbb 120 a m R = zd0 (pvC C13 F 120 a m) (fun v => R v m) := if_pos (by kernel_rfl)
theorem q147 {a : List zab} {m : Tr zam} {R : zay} : Wq C13 F zbb 147 a m R = zd0 (pvC C13 F 147 a m) (fun v => R v m) := if_pos (by kernel_rfl)
theorem q148 {a : List zab} {m : Tr zam} {R : zay} : Wq C13 F zbb 148 a m R = zd0 (pvC C13 F 148 a m) (fun v => R v m) := if_pos (by kernel_rfl)
theorem q149 {a : List zab} {m : Tr zam} {R : zay} : Wq C13 F zbb 149 a m R = zd0 (pvC C13 F 149 a m) (fun v => R v m) := if_pos (by kernel_rfl)
theorem q150 {a : List zab} {m : Tr zam} {R : zay} : Wq C13 F zbb 150 a m R = Wc C13 F 150 a m R := if_neg (by rw [show zbb 150 = false by kernel_rfl]; simp)
theorem q151 {a : List zab} {m : Tr zam} {R : zay} : Wq C13 F zbb 151 a m R = Wc C13 F 151 a m R := if_neg (by rw [show zbb 151 = false by kernel_rfl]; simp)
theorem q152 {a : List zab} {m : Tr zam} {R : zay} : Wq C13 F zbb 152 a m R = Wc C13 F 152 a m R := if_neg (by rw [show zbb 152 = false by kernel_rfl]; simp)
theorem q153 {a : List zab} {m : Tr zam} {R : zay} : Wq C13 F zbb 153 a m R = Wc C13 F 153 a m R := if_neg (by rw [show zbb 153 = false by kernel_rfl]; simp)
theorem q155 {a : List zab} {m : Tr zam} {R : zay} : Wq C13 F zbb 155 a m R = zd0 (pvC C13 F 155 a m) (fun v => R v m) := if_pos (by kernel_rfl)
theorem q156 {a : List zab} {m : Tr zam} {R : zay} : Wq C13 F zbb 156 a m R = zd0 (pvC C13 F 156 a m) (fun v => R v m) := if_pos (by kernel_rfl)
theorem q172 {a : List zab} {m : Tr zam} {R : zay} : Wq C13 F zbb 172 a m R = Wc C13 F 172 a m R := if_neg (by rw [show zbb 172 = false by kernel_rfl]; simp)
theorem q173 {a : List zab} {m : Tr zam} {R : zay} : Wq C13 F zbb 173 a m R = zd0 (pvC C13 F 173 a m) (fun v => R v m) := if_pos (by kernel_rfl)
theorem q174 {a : List zab} {m : Tr zam} {R : zay} : Wq C13 F zbb 174 a m R = zd0 (pvC C13 F 174 a m) (fun v => R v m) := if_pos (by kernel_rfl)
theorem q175 {a : List zab} {m : Tr zam} {R : zay} : Wq C13 F zbb 175 a m R = Wc C13 F 175 a m R := if_neg (by rw [show zbb 175 = false by kernel_rfl]; simp)
theorem q192 {a : List zab} {m : Tr zam} {R : zay} : Wq C13 F zbb 192 a m R = zd0 (pvC C13 F 192 a m) (fun v => R v m) := if_pos (by kernel_rfl)
theorem q193 {a : List zab} {m : Tr zam} {R : zay} : Wq C13 F zbb 193 a m R = Wc C13 F 193 a m R := if_neg (by rw [show zbb 193 = false by kernel_rfl]; simp)
theorem q194 {a : List zab} {m : Tr zam} {R : zay} : Wq C13 F zbb 194 a m R = Wc C13 F 194 a m R := if_neg (by rw [show zbb 194 = false by kernel_rfl]; simp)
theorem q203 {a : List zab} {m : Tr zam} {R : zay} : Wq C13 F zbb 203 a m R = zd0 (pvC C13 F 203 a m) (fun v => R v m) := if_pos (by kernel_rfl)
theorem q204 {a : List zab} {m : Tr zam} {R : zay} : Wq C13 F zbb 204 a m R = Wc C13 F 204 a m R := if_neg (by rw [show zbb 204 = false by kernel_rfl]; simp)
theorem q205 {a : List zab} {m : Tr zam} {R : zay} : Wq C13 F zbb 205 a m R = Wc C13 F 205 a m R := if_neg (by rw [show zbb 205 = false by kernel_rfl]; simp)
theorem q206 {a : List zab} {m : Tr zam} {R : zay} : Wq C13 F zbb 206 a m R = Wc C13 F 206 a m R := if_neg (by rw [show zbb 206 = false by kernel_rfl]; simp)
theorem q208 {a : List zab} {m : Tr zam} {R : zay} : Wq C13 F zbb 208 a m R = Wc C13 F 208 a m R := if_neg (by rw [show zbb 208 = false by kernel_rfl]; simp)
theorem q212 {a : List zab} {m : Tr zam} {R : zay} : Wq C13 F zbb 212 a m R = zd0 (pvC C13 F 212 a m) (fun v => R v m) := if_pos (by kernel_rfl)
theorem q213 {a : List zab} {m : Tr zam} {R : zay} : Wq C13 F zbb 213 a m R = zd0 (pvC C13 F 213 a m) (fun v => R v m) := if_pos (by kernel_rfl)
theorem q214 {a : List zab} {m : Tr zam} {R : zay} : Wq C13 F zbb 214 a m R = Wc C13 F 214 a m R := if_neg (by rw [show zbb 214 = false by kernel_rfl]; simp)
theorem q215 {a : List zab} {m : Tr zam} {R : zay} : Wq C13 F zbb 215 a m R = Wc C13 F 215 a m R := if_neg (by rw [show zbb 215 = false by kernel_rfl]; simp)
theorem q216 {a : List zab} {m : Tr zam} {R : zay} : Wq C13 F zbb 216 a m R = Wc C13 F 216 a m R := if_neg (by rw [show zbb 216 = false by kernel_rfl]; simp)
theorem q217 {a : List zab} {m : Tr zam} {R : zay} : Wq C13 F zbb 217 a m R = zd0 (pvC C13 F 217 a m) (fun v => R v m) := if_pos (by kernel_rfl)
theorem q219 {a : List zab} {m : Tr zam} {R : zay} : Wq C13 F zbb 219 a m R = zd0 (pvC C13 F 219 a m) (fun v => R v m) := if_pos (by kernel_rfl)
theorem q220 {a : List zab} {m : Tr zam} {R : zay} : Wq C13 F zbb 220 a m R = zd0 (pvC C13 F 220 a m) (fun v => R v m) := if_pos (by kernel_rfl)
theorem q221 {a : List zab} {m : Tr zam} {R : zay} : Wq C13 F zbb 221 a m R = zd0 (pvC C13 F 221 a m) (fun v => R v m) := if_pos (by kernel_rfl)
theorem q207 {a : List zab} {m : Tr zam} {R : zay} : Wq C13 F zbb 207 a m R = zd0 (pvC C13 F 207 a m) (fun v => R v m) := if_pos (by kernel_rfl)
theorem q6 {a : List zab} {m : Tr zam} {R : zay} : Wq C13 F zbb 6 a m R = zd0 (pvC C13 F 6 a m) (fun v => R v m) := if_pos (by kernel_rfl)
theorem q98 {a : List zab} {m : Tr zam} {R : zay} : Wq C13 F zbb 98 a m R = zd0 (pvC C13 F 98 a m) (fun v => R v m) := if_pos (by kernel_rfl)
theorem q154 {a : List zab} {m : Tr zam} {R : zay} : Wq C13 F zbb 154 a m R = zd0 (pvC C13 F 154 a m) (fun v => R v m) := if_pos (by kernel_rfl)
theorem zzgi : zk1 C13 (zee F) := z3x (by
 simp only [FL, List.forall_mem_cons]; exact ⟨za8 (fn := Tryz.f5) (c := b5) (by kernel_rfl) (by kernel_rfl) (by kernel_rfl), za8 (fn := Tryz.f12) (c := b12) (by kernel_rfl) (by kernel_rfl) (by kernel_rfl), za8 (fn := Tryz.f27) (c := b27) (by kernel_rfl) (by kernel_rfl) (by kernel_rfl), za8 (fn := Tryz.f28) (c := b28) (by kernel_rfl) (by kernel_rfl) (by kernel_rfl), za8 (fn := Tryz.f53) (c := b53) (by kernel_rfl) (by kernel_rfl) (by kernel_rfl), za8 (fn := Tryz.f54) (c := b54) (by kernel_rfl) (by kernel_rfl) (by kernel_rfl), za8 (fn := Tryz.f55) (c := b55) (by kernel_rfl) (by kernel_rfl) (by kernel_rfl), za8 (fn := Tryz.f56) (c := b56) (by kernel_rfl) (by kernel_rfl) (by kernel_rfl), za8 (fn := Tryz.f57) (c := b57) (by kernel_rfl) (by kernel_rfl) (by kernel_rfl), za8 (fn := Tryz.f59) (c := b59) (by kernel_rfl) (by kernel_rfl) (by kernel_rfl), za8 (fn := Tryz.f91) (c := b91) (by kernel_rfl) (by kernel_rfl) (by kernel_rfl), za8 (fn := Tryz.f92) (c := b92) (by kernel_rfl) (by kernel_rfl) (by kernel_rfl), za8 (fn := Tryz.f93) (c := b93) (by kernel_rfl) (by kernel_rfl) (by kernel_rfl), za8 (fn := Tryz.f94) (c := b94) (by kernel_rfl) (by kernel_rfl) (by kernel_rfl), za8 (fn := Tryz.f95) (c := b95) (by kernel_rfl) (by kernel_rfl) (by kernel_rfl), za8 (fn := Tryz.f116) (c := b116) (by kernel_rfl) (by kernel_rfl) (by kernel_rfl), za8 (fn := Tryz.f117) (c := b117) (by kernel_rfl) (by kernel_rfl) (by kernel_rfl), za8 (fn := Tryz.f118) (c := b118) (by kernel_rfl) (by kernel_rfl) (by kernel_rfl), za8 (fn := Tryz.f119) (c := b119) (by kernel_rfl) (by kernel_rfl) (by kernel_rfl), za8 (fn := Tryz.f120) (c := b120) (by kernel_rfl) (by kernel_rfl) (by kernel_rfl), za8 (fn := Tryz.f147) (c := b147) (by kernel_rfl) (by kernel_rfl) (by kernel_rfl), za8 (fn := Tryz.f148) (c := b148) (by kernel_rfl) (by kernel_rfl) (by kernel_rfl), za8 (fn := Tryz.f149) (c := b149) (by kernel_rfl) (by kernel_rfl) (by kernel_rfl), za8 (fn := Tryz.f150) (c := b150) (by kernel_rfl) (by kernel_rfl) (by kernel_rfl), za8 (fn := Tryz.f151) (c := b151) (by kernel_rfl) (by kernel_rfl) (by kernel_rfl), za8 (fn := Tryz.f152) (c := b152) (by kernel_rfl) (by kernel_rfl) (by kernel_rfl), za8 (fn := Tryz.f153) (c := b153) (by kernel_rfl) (by kernel_rfl) (by kernel_rfl), za8 (fn := Tryz.f155) (c := b155) (by kernel_rfl) (by kernel_rfl) (by kernel_rfl), za8 (fn := Tryz.f156) (c := b156) (by kernel_rfl) (by kernel_rfl) (by kernel_rfl), za8 (fn := Tryz.f172) (c := b172) (by kernel_rfl) (by kernel_rfl) (by kernel_rfl), za8 (fn := Tryz.f173) (c := b173) (by kernel_rfl) (by kernel_rfl) (by kernel_rfl), za8 (fn := Tryz.f174) (c := b174) (by kernel_rfl) (by kernel_rfl) (by kernel_rfl), za8 (fn := Tryz.f175) (c := b175) (by kernel_rfl) (by kernel_rfl) (by kernel_rfl), za8 (fn := Tryz.f192) (c := b192) (by kernel_rfl) (by kernel_rfl) (by kernel_rfl), za8 (fn := Tryz.f193) (c := b193) (by kernel_rfl) (by kernel_rfl) (by kernel_rfl), za8 (fn := Tryz.f194) (c := b194) (by kernel_rfl) (by kernel_rfl) (by kernel_rfl), za8 (fn := Tryz.f203) (c := b203) (by kernel_rfl) (by kernel_rfl) (by kernel_rfl), za8 (fn := Tryz.f204) (c := b204) (by kernel_rfl) (by kernel_rfl) (by kernel_rfl), za8 (fn := Tryz.f205) (c := b205) (by kernel_rfl) (by kernel_rfl) (by kernel_rfl), za8 (fn := Tryz.f206) (c := b206) (by kernel_rfl) (by kernel_rfl) (by kernel_rfl), za8 (fn := Tryz.f208) (c := b208) (by kernel_rfl) (by kernel_rfl) (by kernel_rfl), za8 (fn := Tryz.f212) (c := b212) (by kernel_rfl) (by kernel_rfl) (by kernel_rfl), za8 (fn := Tryz.f213) (c := b213) (by kernel_rfl) (by kernel_rfl) (by kernel_rfl), za8 (fn := Tryz.f214) (c := b214) (by kernel_rfl) (by kernel_rfl) (by kernel_rfl), za8 (fn := Tryz.f215) (c := b215) (by kernel_rfl) (by kernel_rfl) (by kernel_rfl), za8 (fn := Tryz.f216) (c := b216) (by kernel_rfl) (by kernel_rfl) (by kernel_rfl), za8 (fn := Tryz.f217) (c := b217) (by kernel_rfl) (by kernel_rfl) (by kernel_rfl), za8 (fn := Tryz.f219) (c := b219) (by kernel_rfl) (by kernel_rfl) (by kernel_rfl), za8 (fn := Tryz.f220) (c := b220) (by kernel_rfl) (by kernel_rfl) (by kernel_rfl), za8 (fn := Tryz.f221) (c := b221) (by kernel_rfl) (by kernel_rfl) (by kernel_rfl), za8 (fn := Tryz.f207) (c := b207) (by kernel_rfl) (by kernel_rfl) (by kernel_rfl), by simp⟩)
end Go.Proofs
