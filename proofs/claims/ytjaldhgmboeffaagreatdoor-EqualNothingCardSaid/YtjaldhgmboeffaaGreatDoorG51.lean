/- Part. -/
import Derived.Test.YtjaldhgmboeffaaGreatDoorRows
import Derived.WalkKit
import Derived.ProofKit
import Derived.JoinedOf
import Derived.RowKit
import Derived.KernelRfl
namespace Go.Proofs.YtjaldhgmboeffaaGreatDoor.equalNothing
open Go.ChangeShapes Go.WideShapes Go.ChangeAt Go.RowKit
theorem abO:(Rows.equalNothingRow.wf (OpenSpec.ofChange Rows.equalNothingSpec) && laidOutB Tryz.pinned.checked.prog && mapsRowed Tryz.pinned.checked.prog)=true:=by kernel_rfl
theorem EI:(Rows.equalNothingRow.plainKeys==Tryz.pinned.checked.prog.plainKeys)=true:=by kernel_rfl
theorem Bo:Tryz.pinned.checked.prog.stopsHeard=true:=by kernel_rfl
theorem F7:Tryz.pinned.checked.prog.mayEnter=true:=by kernel_rfl
end Go.Proofs.YtjaldhgmboeffaaGreatDoor.equalNothing
