/- ShowLoops: runs. -/
import Derived.Test.YtdfalhpbanhmeaaGreatDoorX1
namespace Go.Proofs.YtdfalhpbanhmeaaGreatDoor.Tab
open Go Go.Ab
set_option maxRecDepth 1000000
theorem run_lo : Ab.isTrue (CT 3 [.sint .i64 (.i 0) minI64 0] st0) = true := by kernel_rfl
theorem run_hi : Ab.isTrue (CT 3 [.sint .i64 (.i 0) 20 maxI64] st0) = true := by kernel_rfl
theorem run1 : Ab.isTrue (CT 3 [.int .i64 1] st0) = true := by kernel_rfl
theorem run2 : Ab.isTrue (CT 3 [.int .i64 2] st0) = true := by kernel_rfl
theorem run3 : Ab.isTrue (CT 3 [.int .i64 3] st0) = true := by kernel_rfl
theorem run4 : Ab.isTrue (CT 3 [.int .i64 4] st0) = true := by kernel_rfl
theorem run5 : Ab.isTrue (CT 3 [.int .i64 5] st0) = true := by kernel_rfl
theorem run6 : Ab.isTrue (CT 3 [.int .i64 6] st0) = true := by kernel_rfl
theorem run7 : Ab.isTrue (CT 3 [.int .i64 7] st0) = true := by kernel_rfl
end Go.Proofs.YtdfalhpbanhmeaaGreatDoor.Tab
