/- The closed run of annuitantlaw12.awake on the abstract machine ends in true. -/
import Derived.Test.YtjiklgloidlihaaGreatDoorAmCtx
import Derived.KernelRfl
set_option maxRecDepth 100000
namespace Go.Proofs
open Go.Am
theorem awake_run : fin (runA (ctx0 13) 16 (startO (ctx0 13) 13 [] H0)) = 1 := by kernel_rfl
#print axioms awake_run
end Go.Proofs
