/- NativeRows, run. -/
import Derived.Test.YtmclonbopcnoeaaN1
namespace Go.Proofs.Ytmclonbopcnoeaa.Tab
open Go Go.Ab
set_option maxRecDepth 1000000
theorem run_Z : isTrue (C2 pentsZ ents0 3 [nT, (.int .i64 0), sT] st0) = true := by kernel_rfl
end Go.Proofs.Ytmclonbopcnoeaa.Tab
