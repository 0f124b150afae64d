/- Part. -/
import Derived.Test.YtdkejjahldkkoaaGreatDoorRows
import Derived.WalkKit
import Derived.ProofKit
import Derived.JoinedOf
import Derived.RowKit
import Derived.KernelRfl
set_option linter.unusedSimpArgs false
set_option linter.unusedVariables false
set_option linter.unusedSectionVars false
namespace Go.Proofs.YtdkejjahldkkoaaGreatDoor.showNothing
open Go.ChangeShapes Go.WideShapes Go.ChangeAt Go.RowKit
theorem abH:(Rows.showNothingRow.wf (OpenSpec.ofChange Rows.showNothingSpec) && laidOutB Tryz.pinned.checked.prog && mapsRowed Tryz.pinned.checked.prog)=true:=by kernel_rfl
theorem E6:(Rows.showNothingRow.plainKeys==Tryz.pinned.checked.prog.plainKeys)=true:=by kernel_rfl
end Go.Proofs.YtdkejjahldkkoaaGreatDoor.showNothing
