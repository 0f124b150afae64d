/- Part. -/
import Derived.Test.YthaiegafejbmoaaGreatDoorRows
import Derived.WalkKit
import Derived.ProofKit
import Derived.JoinedOf
import Derived.RowKit
import Derived.KernelRfl
set_option linter.unusedSimpArgs false
set_option linter.unusedVariables false
set_option linter.unusedSectionVars false
namespace Go.Proofs.YthaiegafejbmoaaGreatDoor.equalAsks
open Go.ChangeShapes Go.WideShapes Go.ChangeAt Go.RowKit
theorem GO:(Rows.equalAsksRow.recurses==Tryz.pinned.checked.prog.recurses 3)=true:=by kernel_rfl
theorem SQ:(Rows.equalAsksRow.named==Tryz.pinned.checked.prog.varsNamed 3)=true:=by kernel_rfl
end Go.Proofs.YthaiegafejbmoaaGreatDoor.equalAsks
