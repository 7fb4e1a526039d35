/- ParseCalls: the runs to the end, calls 0 to 3. -/
import Derived.Test.YtjiklgloidlihaaGreatDoorAmCalls
set_option maxRecDepth 100000
namespace Go.Am
open Go Go.Proofs
theorem run9_0 (w m : Int) : ((List.range 6).all fun n => Nat.beq (fin (c3 w m 0 n)) 1) = true := by kernel_rfl
theorem run9_1 (w m : Int) : ((List.range 6).all fun n => Nat.beq (fin (c3 w m 1 n)) 1) = true := by kernel_rfl
theorem run9_2 (w m : Int) : ((List.range 6).all fun n => Nat.beq (fin (c3 w m 2 n)) 1) = true := by kernel_rfl
theorem run9_3 (w m : Int) : ((List.range 6).all fun n => Nat.beq (fin (c3 w m 3 n)) 1) = true := by kernel_rfl
end Go.Am
