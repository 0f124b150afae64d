/- NativeBack: the runs. -/
import Derived.Test.YtmclonbopcnoeaaM1
namespace Go.Proofs.Ytmclonbopcnoeaa.Tab
open Go Go.Ab
set_option maxRecDepth 1000000
theorem back_3 : backL [31, 32, 33, 34, 35, 36, 37, 38, 39, 40] = true := by kernel_rfl
end Go.Proofs.Ytmclonbopcnoeaa.Tab
