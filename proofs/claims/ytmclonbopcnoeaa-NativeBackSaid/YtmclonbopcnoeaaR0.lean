/- NativeBack: the runs. -/
import Derived.Test.YtmclonbopcnoeaaM1
namespace Go.Proofs.Ytmclonbopcnoeaa.Tab
open Go Go.Ab
set_option maxRecDepth 1000000
theorem back_gap : (gap minI64 0 && (gap 23 30 && (gap 41 50 && (gap 58 60 && (gap 62 70 && gap 76 maxI64))))) = true := by kernel_rfl
end Go.Proofs.Ytmclonbopcnoeaa.Tab
