/-
  The row over the program: out of the lifted walk.
-/
import Derived.Test.YtloaklflgfefaaaGreatDoorL1
import Derived.Test.YtloaklflgfefaaaGreatDoorV1
import Derived.Test.YtloaklflgfefaaaGreatDoorV2
import Derived.Test.YtloaklflgfefaaaGreatDoorV3
import Derived.Test.YtloaklflgfefaaaGreatDoorV4
namespace Go.Proofs.YtloaklflgfefaaaGreatDoor.showBounds
open Go.ChangeShapes Go.WideShapes Go.ChangeAt Go.RowKit
set_option linter.unusedVariables false

theorem closed : joinedFacts Tryz.pinned.checked.prog 3 Tryz.f3 Rows.showBoundsSpec Rows.showBoundsRow = true := by
  unfold joinedFacts
  rw [j_wf, j_inPlace, j_unfollowed, j_recurses, j_named, j_plainKeys, j_stopsHeard, j_mayEnter]
  kernel_rfl

theorem over : Rows.showBoundsRow.holds Tryz.pinned (OpenSpec.ofChange Rows.showBoundsSpec) :=
  OpenClaim.holds_of_wide 3 Tryz.f3 rfl rfl rfl rfl rfl rfl rfl ⟨rfl, rfl, rfl, rfl, rfl⟩ rfl rfl rfl rfl rfl (by kernel_rfl) Tryz.func3 closed
    (of_decide_eq_true (by kernel_rfl)) (by unfold Func.isWrapper; first | (rw [if_pos (by decide +kernel)]; kernel_rfl) | (rw [if_neg (by decide +kernel)]; exact ⟨rfl, rfl⟩))
    (fun os started H enc _ => lifted os started H enc)

end Go.Proofs.YtloaklflgfefaaaGreatDoor.showBounds
