/-
  The row over the program: out of the lifted walk.
-/
import Derived.Test.YtdfalhpbanhmeaaGreatDoorRows
import Derived.WalkKit
import Derived.ProofKit
import Derived.JoinedOf
import Derived.RowKit
import Derived.KernelRfl
import Derived.Test.YtdfalhpbanhmeaaGreatDoorL1
import Derived.Test.YtdfalhpbanhmeaaGreatDoorV1
import Derived.Test.YtdfalhpbanhmeaaGreatDoorV2
import Derived.Test.YtdfalhpbanhmeaaGreatDoorV3
namespace Go.Proofs.YtdfalhpbanhmeaaGreatDoor.showLoops
open Go.ChangeShapes Go.WideShapes Go.ChangeAt Go.RowKit
set_option linter.unusedVariables false

theorem j_stopsHeard : Tryz.pinned.checked.prog.stopsHeard = true := by kernel_rfl
theorem j_mayEnter : Tryz.pinned.checked.prog.mayEnter = true := by kernel_rfl
end Go.Proofs.YtdfalhpbanhmeaaGreatDoor.showLoops

namespace Go.Proofs.YtdfalhpbanhmeaaGreatDoor.showLoops
open Go.ChangeShapes Go.WideShapes Go.ChangeAt Go.RowKit
set_option linter.unusedVariables false

theorem closed : joinedFacts Tryz.pinned.checked.prog 3 Tryz.f3 Rows.showLoopsSpec Rows.showLoopsRow = true := by
  unfold joinedFacts
  rw [j_wf, j_inPlace, j_unfollowed, j_recurses, j_named, j_plainKeys, j_stopsHeard, j_mayEnter]
  kernel_rfl

theorem over : Rows.showLoopsRow.holds Tryz.pinned (OpenSpec.ofChange Rows.showLoopsSpec) :=
  OpenClaim.holds_of_wide 3 Tryz.f3 rfl rfl rfl rfl rfl rfl rfl ⟨rfl, rfl, rfl, rfl, rfl⟩ rfl rfl rfl rfl rfl (by kernel_rfl) Tryz.func3 closed
    (of_decide_eq_true (by kernel_rfl)) (by unfold Func.isWrapper; first | (rw [if_pos (by decide +kernel)]; kernel_rfl) | (rw [if_neg (by decide +kernel)]; exact ⟨rfl, rfl⟩))
    (fun os started H enc _ => lifted os started H enc)

end Go.Proofs.YtdfalhpbanhmeaaGreatDoor.showLoops
