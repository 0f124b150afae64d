/- Part. -/
import Derived.Test.YtdkejjahldkkoaaGreatDoorRows
import Derived.WalkKit
import Derived.ProofKit
import Derived.JoinedOf
import Derived.RowKit
import Derived.KernelRfl
set_option linter.unusedSimpArgs false
set_option linter.unusedVariables false
set_option linter.unusedSectionVars false
namespace Go.Proofs.YtdkejjahldkkoaaGreatDoor.showNothing
open Go.ChangeShapes Go.WideShapes Go.ChangeAt Go.RowKit
theorem B4:Tryz.pinned.checked.prog.stopsHeard=true:=by kernel_rfl
theorem GV:Tryz.pinned.checked.prog.mayEnter=true:=by kernel_rfl
end Go.Proofs.YtdkejjahldkkoaaGreatDoor.showNothing
