/- Calls run by themselves. -/
import Derived.Test.YtmclonbopcnoeaaN1
namespace Go.Proofs.Ytmclonbopcnoeaa.Tab
open Go Go.Ab
set_option maxRecDepth 1000000
theorem p_e8 : pureOk C0 e8 = true := by kernel_rfl
end Go.Proofs.Ytmclonbopcnoeaa.Tab
