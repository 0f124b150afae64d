/- Part. -/
import Derived.Test.YthaiegafejbmoaaGreatDoorRows
import Derived.WalkKit
import Derived.ProofKit
import Derived.JoinedOf
import Derived.RowKit
import Derived.KernelRfl
set_option linter.unusedSimpArgs false
set_option linter.unusedVariables false
set_option linter.unusedSectionVars false
namespace Go.Proofs.YthaiegafejbmoaaGreatDoor.equalAsks
open Go.ChangeShapes Go.WideShapes Go.ChangeAt Go.RowKit
theorem abZ:(Rows.equalAsksRow.wf (OpenSpec.ofChange Rows.equalAsksSpec) && laidOutB Tryz.pinned.checked.prog && mapsRowed Tryz.pinned.checked.prog)=true:=by kernel_rfl
theorem Ep:(Rows.equalAsksRow.plainKeys==Tryz.pinned.checked.prog.plainKeys)=true:=by kernel_rfl
end Go.Proofs.YthaiegafejbmoaaGreatDoor.equalAsks
