/- NativeBack: the runs. -/
import Derived.Test.YtmclonbopcnoeaaM1
namespace Go.Proofs.Ytmclonbopcnoeaa.Tab
open Go Go.Ab
set_option maxRecDepth 1000000
theorem back_4 : backL [51, 52, 53, 54, 55, 56, 57, 61, 71, 72, 73, 74, 75] = true := by kernel_rfl
end Go.Proofs.Ytmclonbopcnoeaa.Tab
