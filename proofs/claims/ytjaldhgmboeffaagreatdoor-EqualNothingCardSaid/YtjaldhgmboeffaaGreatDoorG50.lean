/- Part. -/
import Derived.Test.YtjaldhgmboeffaaGreatDoorRows
import Derived.WalkKit
import Derived.ProofKit
import Derived.JoinedOf
import Derived.RowKit
import Derived.KernelRfl
namespace Go.Proofs.YtjaldhgmboeffaaGreatDoor.equalNothing
open Go.ChangeShapes Go.WideShapes Go.ChangeAt Go.RowKit
theorem F1:(Rows.equalNothingRow.recurses==Tryz.pinned.checked.prog.recurses 3)=true:=by kernel_rfl
theorem Qk:(Rows.equalNothingRow.named==Tryz.pinned.checked.prog.varsNamed 3)=true:=by kernel_rfl
end Go.Proofs.YtjaldhgmboeffaaGreatDoor.equalNothing
