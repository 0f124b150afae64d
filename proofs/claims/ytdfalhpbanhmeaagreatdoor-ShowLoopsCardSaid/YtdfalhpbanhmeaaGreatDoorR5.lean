/- ShowLoops: runs. -/
import Derived.Test.YtdfalhpbanhmeaaGreatDoorX1
namespace Go.Proofs.YtdfalhpbanhmeaaGreatDoor.Tab
open Go Go.Ab
set_option maxRecDepth 1000000
theorem run18 : Ab.isTrue (CT 3 [.int .i64 18] st0) = true := by kernel_rfl
theorem run19 : Ab.isTrue (CT 3 [.int .i64 19] st0) = true := by kernel_rfl
end Go.Proofs.YtdfalhpbanhmeaaGreatDoor.Tab
