/- NativeRows, run. -/
import Derived.Test.YtmclonbopcnoeaaN1
namespace Go.Proofs.Ytmclonbopcnoeaa.Tab
open Go Go.Ab
set_option maxRecDepth 1000000
theorem run_P : isTrue (C2 pentsP entsP 3 [nT, (kTr 1 maxI64), sT] st0) = true := by kernel_rfl
end Go.Proofs.Ytmclonbopcnoeaa.Tab
