/- ShowLoops: runs. -/
import Derived.Test.YtdfalhpbanhmeaaGreatDoorX1
namespace Go.Proofs.YtdfalhpbanhmeaaGreatDoor.Tab
open Go Go.Ab
set_option maxRecDepth 1000000
theorem run8 : Ab.isTrue (CT 3 [.int .i64 8] st0) = true := by kernel_rfl
theorem run9 : Ab.isTrue (CT 3 [.int .i64 9] st0) = true := by kernel_rfl
theorem run10 : Ab.isTrue (CT 3 [.int .i64 10] st0) = true := by kernel_rfl
theorem run11 : Ab.isTrue (CT 3 [.int .i64 11] st0) = true := by kernel_rfl
end Go.Proofs.YtdfalhpbanhmeaaGreatDoor.Tab
