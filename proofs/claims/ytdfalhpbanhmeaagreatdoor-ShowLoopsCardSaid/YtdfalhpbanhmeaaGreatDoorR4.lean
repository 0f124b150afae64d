/- ShowLoops: runs. -/
import Derived.Test.YtdfalhpbanhmeaaGreatDoorX1
namespace Go.Proofs.YtdfalhpbanhmeaaGreatDoor.Tab
open Go Go.Ab
set_option maxRecDepth 1000000
theorem run15 : Ab.isTrue (CT 3 [.int .i64 15] st0) = true := by kernel_rfl
theorem run16 : Ab.isTrue (CT 3 [.int .i64 16] st0) = true := by kernel_rfl
theorem run17 : Ab.isTrue (CT 3 [.int .i64 17] st0) = true := by kernel_rfl
end Go.Proofs.YtdfalhpbanhmeaaGreatDoor.Tab
