/- ParseCalls: the runs. -/
import Derived.Test.YtjiklgloidlihaaGreatDoorAmPatch
import Derived.Test.YtjiklgloidlihaaGreatDoorAmWords
set_option maxRecDepth 100000
namespace Go.Am
open Go Go.RowKit Go.Proofs
noncomputable def c1 (w m : Int) : AOut := runTo (ctx1 9) 5 60 (startO (ctx1 9) 9 [.int .u8 w, .int .u8 m] H0)
noncomputable def c2 (w m : Int) (k : Nat) : AOut := runTo (ctx1 9) 11 100 (patch 0 5 (.int .u8 (.ofNat k)) (c1 w m))
noncomputable def c3 (w m : Int) (k n : Nat) : AOut := runA (ctx1 9) 14 (patch 1 11 (.int .i64 (.ofNat n)) (c2 w m k))
theorem slot5 (w m : Int) : slotOf 5 (c1 w m) = some (.int .u8 (w.tmod 12)) := by kernel_rfl
theorem slot11_0 (w m : Int) : slotOf 11 (c2 w m 0) = some (.int .i64 (wrapF .i64 (m.tmod 6))) := by kernel_rfl
theorem slot11_1 (w m : Int) : slotOf 11 (c2 w m 1) = some (.int .i64 (wrapF .i64 (m.tmod 6))) := by kernel_rfl
theorem slot11_2 (w m : Int) : slotOf 11 (c2 w m 2) = some (.int .i64 (wrapF .i64 (m.tmod 6))) := by kernel_rfl
theorem slot11_3 (w m : Int) : slotOf 11 (c2 w m 3) = some (.int .i64 (wrapF .i64 (m.tmod 6))) := by kernel_rfl
theorem slot11_4 (w m : Int) : slotOf 11 (c2 w m 4) = some (.int .i64 (wrapF .i64 (m.tmod 6))) := by kernel_rfl
theorem slot11_5 (w m : Int) : slotOf 11 (c2 w m 5) = some (.int .i64 (wrapF .i64 (m.tmod 6))) := by kernel_rfl
theorem slot11_6 (w m : Int) : slotOf 11 (c2 w m 6) = some (.int .i64 (wrapF .i64 (m.tmod 6))) := by kernel_rfl
theorem slot11_7 (w m : Int) : slotOf 11 (c2 w m 7) = some (.int .i64 (wrapF .i64 (m.tmod 6))) := by kernel_rfl
theorem slot11_8 (w m : Int) : slotOf 11 (c2 w m 8) = some (.int .i64 (wrapF .i64 (m.tmod 6))) := by kernel_rfl
theorem slot11_9 (w m : Int) : slotOf 11 (c2 w m 9) = some (.int .i64 (wrapF .i64 (m.tmod 6))) := by kernel_rfl
theorem slot11_10 (w m : Int) : slotOf 11 (c2 w m 10) = some (.int .i64 (wrapF .i64 (m.tmod 6))) := by kernel_rfl
theorem slot11_11 (w m : Int) : slotOf 11 (c2 w m 11) = some (.int .i64 (wrapF .i64 (m.tmod 6))) := by kernel_rfl
end Go.Am
