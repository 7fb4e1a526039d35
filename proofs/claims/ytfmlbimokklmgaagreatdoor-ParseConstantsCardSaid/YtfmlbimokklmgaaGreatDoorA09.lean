/- The closed run of annuitantlaw12.awake on the abstract machine ends in true. -/
import Derived.KernelRfl
import Derived.Test.YtfmlbimokklmgaaGreatDoorA08
set_option linter.all false
noncomputable section
set_option maxRecDepth 100000
namespace Go.Proofs
open Go Go.Am
def zw4 : List (List UInt8) := [[], [116, 114, 117, 116, 104], [110, 117, 109, 98, 101, 114], [109, 111, 110, 101, 121], [100, 97, 116, 101], [100, 97, 121, 115], [109, 111, 110, 116, 104, 115]]
def zww : List (List UInt8) := [[], [100, 111, 119, 110], [117, 112], [102, 108, 111, 111, 114], [99, 101, 105, 108], [104, 97, 108, 102], [101, 118, 101, 110]]
def zzhe : List Int := [31, 28, 31, 30, 31, 30, 31, 31, 30, 31, 30, 31]
def zzjn (l : List (List UInt8)) : List zab := l.map fun b => zab.str (b.map UInt8.toNat)
def intA (k : IntKind) (l : List Int) : List zab := l.map fun n => zab.int k n
def H30 : zaf := ⟨256, glob 1 (zzjn zw4) (glob 4 (zzjn zww) (glob 2 (intA .i64 zzhe) .leaf))⟩
def zwj : Tr (List zab -> zaf -> Option (zab × zaf)) := (((Tr.leaf.set 107 (zk9 zjl)).set 66 (zk9 zjm)).set 98 (zk9 pCut)).set 54 (zk9 zzm)
def C30w : Ctx := ⟨fns, ks, tys, plans, zwj, 256, 9⟩
theorem zzet : fin (zzl8 C30w 16 (zzad C30w 9 [] H30)) = 1 := by kernel_rfl
end Go.Proofs
