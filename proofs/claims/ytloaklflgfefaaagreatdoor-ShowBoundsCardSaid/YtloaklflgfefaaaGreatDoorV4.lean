/-
  What the row says of its program, fact by fact.
-/
import Derived.Test.YtloaklflgfefaaaGreatDoorRows
import Derived.WalkKit
import Derived.ProofKit
import Derived.JoinedOf
import Derived.RowKit
import Derived.KernelRfl
namespace Go.Proofs.YtloaklflgfefaaaGreatDoor.showBounds
open Go.ChangeShapes Go.WideShapes Go.ChangeAt Go.RowKit
set_option linter.unusedVariables false

theorem j_stopsHeard : Tryz.pinned.checked.prog.stopsHeard = true := by kernel_rfl
theorem j_mayEnter : Tryz.pinned.checked.prog.mayEnter = true := by kernel_rfl
end Go.Proofs.YtloaklflgfefaaaGreatDoor.showBounds
