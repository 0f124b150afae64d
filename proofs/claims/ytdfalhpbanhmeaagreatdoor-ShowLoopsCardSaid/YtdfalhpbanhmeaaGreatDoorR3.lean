/- ShowLoops: runs. -/
import Derived.Test.YtdfalhpbanhmeaaGreatDoorX1
namespace Go.Proofs.YtdfalhpbanhmeaaGreatDoor.Tab
open Go Go.Ab
set_option maxRecDepth 1000000
theorem run12 : Ab.isTrue (CT 3 [.int .i64 12] st0) = true := by kernel_rfl
theorem run13 : Ab.isTrue (CT 3 [.int .i64 13] st0) = true := by kernel_rfl
theorem run14 : Ab.isTrue (CT 3 [.int .i64 14] st0) = true := by kernel_rfl
end Go.Proofs.YtdfalhpbanhmeaaGreatDoor.Tab
