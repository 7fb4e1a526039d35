/- ParseCalls: the runs to the end, calls 8 to 11. -/
import Derived.Test.YtjiklgloidlihaaGreatDoorAmCalls
set_option maxRecDepth 100000
namespace Go.Am
open Go Go.Proofs
theorem run9_8 (w m : Int) : ((List.range 6).all fun n => Nat.beq (fin (c3 w m 8 n)) 1) = true := by kernel_rfl
theorem run9_9 (w m : Int) : ((List.range 6).all fun n => Nat.beq (fin (c3 w m 9 n)) 1) = true := by kernel_rfl
theorem run9_10 (w m : Int) : ((List.range 6).all fun n => Nat.beq (fin (c3 w m 10 n)) 1) = true := by kernel_rfl
theorem run9_11 (w m : Int) : ((List.range 6).all fun n => Nat.beq (fin (c3 w m 11 n)) 1) = true := by kernel_rfl
end Go.Am
