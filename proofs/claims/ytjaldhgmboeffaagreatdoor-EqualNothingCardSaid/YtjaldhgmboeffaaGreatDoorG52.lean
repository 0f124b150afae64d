/- Part. -/
import Derived.Test.YtjaldhgmboeffaaGreatDoorRows
import Derived.Test.YtjaldhgmboeffaaGreatDoorCards
import Derived.WalkKit
import Derived.ProofKit
import Derived.JoinedOf
import Derived.RowKit
import Derived.KernelRfl
namespace Go.Proofs.YtjaldhgmboeffaaGreatDoor.equalNothing
open Go.ChangeShapes Go.WideShapes Go.ChangeAt Go.RowKit
theorem GB:false=Rows.equalNothingRow.goesBy Tryz.pinned.checked.prog:=by kernel_rfl
end Go.Proofs.YtjaldhgmboeffaaGreatDoor.equalNothing
