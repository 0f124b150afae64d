/- Calls run by themselves. -/
import Derived.Test.YtmclonbopcnoeaaN1
namespace Go.Proofs.Ytmclonbopcnoeaa.Tab
open Go Go.Ab
set_option maxRecDepth 1000000
theorem p_e5 : pureOk C0 e5 = true := by kernel_rfl
end Go.Proofs.Ytmclonbopcnoeaa.Tab
