/- Part. -/
import Derived.Test.YtdkejjahldkkoaaGreatDoorRows
import Derived.WalkKit
import Derived.ProofKit
import Derived.JoinedOf
import Derived.RowKit
import Derived.KernelRfl
set_option linter.unusedSimpArgs false
set_option linter.unusedVariables false
set_option linter.unusedSectionVars false
namespace Go.Proofs.YtdkejjahldkkoaaGreatDoor.showNothing
open Go.ChangeShapes Go.WideShapes Go.ChangeAt Go.RowKit
theorem Kl:(Rows.showNothingRow.inPlace==Tryz.pinned.checked.prog.inPlace 3)=true:=by kernel_rfl
theorem B1:(Rows.showNothingRow.unfollowed==Tryz.pinned.checked.prog.unfollowed 3)=true:=by kernel_rfl
end Go.Proofs.YtdkejjahldkkoaaGreatDoor.showNothing
