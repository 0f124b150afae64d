/- NativeRows, run. -/
import Derived.Test.YtmclonbopcnoeaaN1
namespace Go.Proofs.Ytmclonbopcnoeaa.Tab
open Go Go.Ab
set_option maxRecDepth 1000000
theorem run_N : isTrue (C2 pentsN entsN 3 [nT, (kTr minI64 (-1)), sT] st0) = true := by kernel_rfl
end Go.Proofs.Ytmclonbopcnoeaa.Tab
