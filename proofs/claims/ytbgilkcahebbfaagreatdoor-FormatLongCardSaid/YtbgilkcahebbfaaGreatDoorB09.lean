/- The closed run of annuitantlaw13.awake on the abstract machine ends in true (the five expressions by runs of their own). -/
import Derived.KernelRfl
import Derived.Test.YtbgilkcahebbfaaGreatDoorB08
set_option linter.all false
noncomputable section
set_option maxRecDepth 100000
namespace Go.Proofs
open Go Go.Am
def zti : List (List UInt8) := [[], [116, 114, 117, 116, 104], [110, 117, 109, 98, 101, 114], [109, 111, 110, 101, 121], [100, 97, 116, 101], [100, 97, 121, 115], [109, 111, 110, 116, 104, 115]]
def ztg : List (List UInt8) := [[], [100, 111, 119, 110], [117, 112], [102, 108, 111, 111, 114], [99, 101, 105, 108], [104, 97, 108, 102], [101, 118, 101, 110]]
def z1i : List Int := [31, 28, 31, 30, 31, 30, 31, 31, 30, 31, 30, 31]
def zzdi : List Int := (List.range 20).map fun n => ((10 ^ n : Nat) : Int)
def zzg8 (l : List (List UInt8)) : List zab := l.map fun b => zab.str (b.map UInt8.toNat)
def zzfg (k : IntKind) (l : List Int) : List zab := l.map fun n => zab.int k n
def H13 : zaf := ⟨256, glob 0 (zzg8 zti) (glob 1 (zzg8 ztg) (glob 2 (zzfg .i64 z1i) (glob 5 (zzfg .u64 zzdi) .leaf)))⟩
def z7r : List (List Nat × List Nat) := [([49, 45, 40, 40, 50, 45, 51, 41, 41], [49, 32, 45, 32, 40, 50, 32, 45, 32, 51, 41]),
 ([40, 49, 32, 45, 32, 50, 41, 32, 45, 32, 51], [49, 32, 45, 32, 50, 32, 45, 32, 51]),
 ([110, 111, 116, 32, 40, 120, 32, 97, 116, 32, 116, 111, 100, 97, 121, 60, 49, 41], [110, 111, 116, 32, 120, 32, 97, 116, 32, 116, 111, 100, 97, 121, 32, 60, 32, 49]),
 ([40, 110, 111, 116, 32, 116, 114, 117, 101, 41, 32, 60, 32, 49], [40, 110, 111, 116, 32, 116, 114, 117, 101, 41, 32, 60, 32, 49]),
 ([97, 32, 97, 116, 32, 40, 116, 111, 100, 97, 121, 43, 49, 32, 100, 97, 121, 115, 41], [97, 32, 97, 116, 32, 40, 116, 111, 100, 97, 121, 32, 43, 32, 49, 32, 100, 97, 121, 115, 41])]
def inW : List (List Nat × List Nat) -> List Nat -> List Nat -> Bool
 | [], _, _ => false
 | p :: r, a, b => bif zes p.1 a && zes p.2 b then true else inW r a b
def z04 (a : List zab) (_ : zaf) : Option zab := match a with
 | [.str x, .str y] => zaj (inW z7r x y) (some (.bool true))
 | _ => none
def zp0 : Tr (List zab -> zaf -> Option (zab × zaf)) := ((((((Tr.leaf.set 46 (zre 256 zn9)).set 25 (zn4 256 5)).set 98 (zk2 z5v)).set 154 (zk2 z9y)).set 113 (zk2 zim)).set 188 (zk2 zn5))
def zv1 : Tr (List zab -> zaf -> Option (zab × zaf)) := zp0.set 15 (zk2 z04)
def z4y (f : Nat) : Ctx := ⟨fns, ks, tys, plans, zp0, 256, f⟩
def C13w : Ctx := ⟨fns, ks, tys, plans, zv1, 256, 6⟩
theorem zzcx : fin (z5k C13w 16 (zmh C13w 6 [] H13)) = 1 := by kernel_rfl
end Go.Proofs
