/-
  What the row says of its program, fact by fact.
-/
import Derived.Test.YtdfalhpbanhmeaaGreatDoorRows
import Derived.WalkKit
import Derived.ProofKit
import Derived.JoinedOf
import Derived.RowKit
import Derived.KernelRfl
namespace Go.Proofs.YtdfalhpbanhmeaaGreatDoor.showLoops
open Go.ChangeShapes Go.WideShapes Go.ChangeAt Go.RowKit
set_option linter.unusedVariables false

theorem j_wf : (Rows.showLoopsRow.wf (OpenSpec.ofChange Rows.showLoopsSpec) && laidOutB Tryz.pinned.checked.prog && mapsRowed Tryz.pinned.checked.prog) = true := by kernel_rfl
theorem j_plainKeys : (Rows.showLoopsRow.plainKeys == Tryz.pinned.checked.prog.plainKeys) = true := by kernel_rfl
end Go.Proofs.YtdfalhpbanhmeaaGreatDoor.showLoops
