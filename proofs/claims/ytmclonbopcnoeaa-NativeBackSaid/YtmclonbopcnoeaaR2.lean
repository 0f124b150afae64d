/- NativeBack: the runs. -/
import Derived.Test.YtmclonbopcnoeaaM1
namespace Go.Proofs.Ytmclonbopcnoeaa.Tab
open Go Go.Ab
set_option maxRecDepth 1000000
theorem back_2 : backL [12, 13, 14, 15, 16, 17, 18, 19, 20, 21, 22] = true := by kernel_rfl
end Go.Proofs.Ytmclonbopcnoeaa.Tab
