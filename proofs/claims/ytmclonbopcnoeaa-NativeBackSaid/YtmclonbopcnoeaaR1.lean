/- NativeBack: the runs. -/
import Derived.Test.YtmclonbopcnoeaaM1
namespace Go.Proofs.Ytmclonbopcnoeaa.Tab
open Go Go.Ab
set_option maxRecDepth 1000000
theorem back_1 : backL [1, 2, 3, 4, 5, 6, 7, 8, 9, 10, 11] = true := by kernel_rfl
end Go.Proofs.Ytmclonbopcnoeaa.Tab
