/- Part. -/
import Derived.Test.YtdkejjahldkkoaaGreatDoorRows
import Derived.Test.YtdkejjahldkkoaaGreatDoorCards
import Derived.WalkKit
import Derived.ProofKit
import Derived.JoinedOf
import Derived.RowKit
import Derived.KernelRfl
set_option linter.unusedSimpArgs false
set_option linter.unusedVariables false
set_option linter.unusedSectionVars false
namespace Go.Proofs.YtdkejjahldkkoaaGreatDoor.showNothing
open Go.ChangeShapes Go.WideShapes Go.ChangeAt Go.RowKit
theorem NP:false=Rows.showNothingRow.goesBy Tryz.pinned.checked.prog:=by kernel_rfl
end Go.Proofs.YtdkejjahldkkoaaGreatDoor.showNothing
