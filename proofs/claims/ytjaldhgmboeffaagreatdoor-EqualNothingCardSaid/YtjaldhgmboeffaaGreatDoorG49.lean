/- Part. -/
import Derived.Test.YtjaldhgmboeffaaGreatDoorRows
import Derived.WalkKit
import Derived.ProofKit
import Derived.JoinedOf
import Derived.RowKit
import Derived.KernelRfl
namespace Go.Proofs.YtjaldhgmboeffaaGreatDoor.equalNothing
open Go.ChangeShapes Go.WideShapes Go.ChangeAt Go.RowKit
theorem KR:(Rows.equalNothingRow.inPlace==Tryz.pinned.checked.prog.inPlace 3)=true:=by kernel_rfl
theorem Cc:(Rows.equalNothingRow.unfollowed==Tryz.pinned.checked.prog.unfollowed 3)=true:=by kernel_rfl
end Go.Proofs.YtjaldhgmboeffaaGreatDoor.equalNothing
