/- Part. -/
import Derived.Test.YthaiegafejbmoaaGreatDoorRows
import Derived.WalkKit
import Derived.ProofKit
import Derived.JoinedOf
import Derived.RowKit
import Derived.KernelRfl
set_option linter.unusedSimpArgs false
set_option linter.unusedVariables false
set_option linter.unusedSectionVars false
namespace Go.Proofs.YthaiegafejbmoaaGreatDoor.equalAsks
open Go.ChangeShapes Go.WideShapes Go.ChangeAt Go.RowKit
theorem Cp:Tryz.pinned.checked.prog.stopsHeard=true:=by kernel_rfl
theorem GN:Tryz.pinned.checked.prog.mayEnter=true:=by kernel_rfl
end Go.Proofs.YthaiegafejbmoaaGreatDoor.equalAsks
