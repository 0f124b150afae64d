/- NativeRows, run. -/
import Derived.Test.YtmclonbopcnoeaaN1
namespace Go.Proofs.Ytmclonbopcnoeaa.Tab
open Go Go.Ab
set_option maxRecDepth 1000000
theorem run_L : isTrue (C2 [e5] [] 3 [nT, kT, sL] st0) = true := by kernel_rfl
end Go.Proofs.Ytmclonbopcnoeaa.Tab
