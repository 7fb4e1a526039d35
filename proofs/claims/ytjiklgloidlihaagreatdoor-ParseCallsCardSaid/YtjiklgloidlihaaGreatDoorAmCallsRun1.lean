/- ParseCalls: the runs to the end, calls 4 to 7. -/
import Derived.Test.YtjiklgloidlihaaGreatDoorAmCalls
set_option maxRecDepth 100000
namespace Go.Am
open Go Go.Proofs
theorem run9_4 (w m : Int) : ((List.range 6).all fun n => Nat.beq (fin (c3 w m 4 n)) 1) = true := by kernel_rfl
theorem run9_5 (w m : Int) : ((List.range 6).all fun n => Nat.beq (fin (c3 w m 5 n)) 1) = true := by kernel_rfl
theorem run9_6 (w m : Int) : ((List.range 6).all fun n => Nat.beq (fin (c3 w m 6 n)) 1) = true := by kernel_rfl
theorem run9_7 (w m : Int) : ((List.range 6).all fun n => Nat.beq (fin (c3 w m 7 n)) 1) = true := by kernel_rfl
end Go.Am
