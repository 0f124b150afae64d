/- Part. -/
import Derived.Test.YthaiegafejbmoaaGreatDoorRows
import Derived.Test.YthaiegafejbmoaaGreatDoorCards
import Derived.WalkKit
import Derived.ProofKit
import Derived.JoinedOf
import Derived.RowKit
import Derived.KernelRfl
set_option linter.unusedSimpArgs false
set_option linter.unusedVariables false
set_option linter.unusedSectionVars false
namespace Go.Proofs.YthaiegafejbmoaaGreatDoor.equalAsks
open Go.ChangeShapes Go.WideShapes Go.ChangeAt Go.RowKit
theorem O7:false=Rows.equalAsksRow.goesBy Tryz.pinned.checked.prog:=by kernel_rfl
end Go.Proofs.YthaiegafejbmoaaGreatDoor.equalAsks
