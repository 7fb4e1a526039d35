/- The closed run of annuitantlaw13.awake on the abstract machine ends in true (the five expressions by runs of their own). -/
import Derived.KernelRfl
import Derived.Test.YtbgilkcahebbfaaGreatDoorA08
import Derived.Test.YtbgilkcahebbfaaGreatDoorA09
set_option linter.all false
noncomputable section
set_option maxRecDepth 100000
namespace Go.Proofs
open Go Go.Am
def zre : List (List UInt8) := [[], [116, 114, 117, 116, 104], [110, 117, 109, 98, 101, 114], [109, 111, 110, 101, 121], [100, 97, 116, 101], [100, 97, 121, 115], [109, 111, 110, 116, 104, 115]]
def zrc : List (List UInt8) := [[], [100, 111, 119, 110], [117, 112], [102, 108, 111, 111, 114], [99, 101, 105, 108], [104, 97, 108, 102], [101, 118, 101, 110]]
def z95 : List Int := [31, 28, 31, 30, 31, 30, 31, 31, 30, 31, 30, 31]
def z94 : List Int := (List.range 20).map fun n => ((10 ^ n : Nat) : Int)
def zzdo (l : List (List UInt8)) : List zab := l.map fun b => zab.str (b.map UInt8.toNat)
def zzb0 (k : IntKind) (l : List Int) : List zab := l.map fun n => zab.int k n
def H13 : zaf := ⟨256, glob 0 (zzdo zre) (glob 1 (zzdo zrc) (glob 2 (zzb0 .i64 z95) (glob 5 (zzb0 .u64 z94) .leaf)))⟩
def z4k : List (List Nat × List Nat) := [([49, 45, 40, 40, 50, 45, 51, 41, 41], [49, 32, 45, 32, 40, 50, 32, 45, 32, 51, 41]),
 ([40, 49, 32, 45, 32, 50, 41, 32, 45, 32, 51], [49, 32, 45, 32, 50, 32, 45, 32, 51]),
 ([110, 111, 116, 32, 40, 120, 32, 97, 116, 32, 116, 111, 100, 97, 121, 60, 49, 41], [110, 111, 116, 32, 120, 32, 97, 116, 32, 116, 111, 100, 97, 121, 32, 60, 32, 49]),
 ([40, 110, 111, 116, 32, 116, 114, 117, 101, 41, 32, 60, 32, 49], [40, 110, 111, 116, 32, 116, 114, 117, 101, 41, 32, 60, 32, 49]),
 ([97, 32, 97, 116, 32, 40, 116, 111, 100, 97, 121, 43, 49, 32, 100, 97, 121, 115, 41], [97, 32, 97, 116, 32, 40, 116, 111, 100, 97, 121, 32, 43, 32, 49, 32, 100, 97, 121, 115, 41])]
def inW : List (List Nat × List Nat) -> List Nat -> List Nat -> Bool
 | [], _, _ => false
 | p :: r, a, b => bif zhk p.1 a && zhk p.2 b then true else inW r a b
def zyo (a : List zab) (_ : zaf) : Option zab := match a with
 | [.str x, .str y] => zah (inW z4k x y) (some (.bool true))
 | _ => none
def zyy : List (Nat × Nat) := [(110, 3), (77, 2)]
def zok : Tr (List zab -> zaf -> Option (zab × zaf)) := ((((((Tr.leaf.set 46 (z0z 256 zyy)).set 25 (ztr 256 5)).set 98 (zks z2x)).set 154 (zks z6n)).set 113 (zks zpn)).set 188 (zks zmr))
def ztn : Tr (List zab -> zaf -> Option (zab × zaf)) := zok.set 15 (zks zyo)
def z13 (f : Nat) : Ctx := ⟨fns, ks, tys, plans, zok, 256, f⟩
def C13w : Ctx := ⟨fns, ks, tys, plans, ztn, 256, 6⟩
theorem z9i : fin (z2n C13w 16 (zk9 C13w 6 [] H13)) = 1 := by kernel_rfl
end Go.Proofs
