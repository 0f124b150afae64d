/-
  ShowBounds returns true for every two numbers; the arguments read as they did. No conditions (the card ties what is listed to the text).
-/
import Derived.Test.YtloaklflgfefaaaGreatDoorCards
import Derived.Test.YtloaklflgfefaaaGreatDoorTie
import Derived.Test.YtloaklflgfefaaaGreatDoorL2
namespace Go.Proofs.YtloaklflgfefaaaGreatDoor.showBounds
open Go.ChangeShapes Go.WideShapes Go.ChangeAt Go.RowKit

/-- ████ THE STATEMENT ████ -/
theorem proved : Rows.ShowBoundsCardSaid :=
  Claim7.holds_tied_plain_at .later [] [.data, .data, .data, .data, .pinned] true (true, "fc17c03ba8dfb4ab7846ca7b7679ffb1bb231b3897889c2a8e9d40157030706a") true
    over (fun _ h => by cases h) (by kernel_rfl) (fun _ h => by cases h) showBounds_row_tie rfl ⟨rfl, rfl⟩ (by kernel_rfl) rfl
    (fun f fn hf hfn => by
      obtain rfl : f = 3 := Option.some.inj ((show Tryz.prog.funcNamed "lexicon/lexiconlaw22.ShowBounds" = some 3 by kernel_rfl).symm.trans hf) |>.symm
      obtain rfl : fn = Tryz.f3 := (Option.some.inj (Tryz.func3.symm.trans hfn)).symm
      exact ⟨by kernel_rfl, fun j t ht => by
        rw [Tryz.params3] at ht
        rcases j with _ | _ | j
        · obtain rfl : t = 3 := by simpa using ht.symm
          exact (show Tryz.prog.wantsStandIn 3 = false by kernel_rfl)
        · obtain rfl : t = 3 := by simpa using ht.symm
          exact (show Tryz.prog.wantsStandIn 3 = false by kernel_rfl)
        · simp at ht⟩)
    (by kernel_rfl)
end Go.Proofs.YtloaklflgfefaaaGreatDoor.showBounds
