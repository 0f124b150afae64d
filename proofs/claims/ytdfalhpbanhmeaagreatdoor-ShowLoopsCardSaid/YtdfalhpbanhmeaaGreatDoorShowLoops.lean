/-
  ShowLoops returns true for every number; the argument reads as it did. No conditions (the card ties what is listed to the text).
-/
import Derived.Test.YtdfalhpbanhmeaaGreatDoorCards
import Derived.Test.YtdfalhpbanhmeaaGreatDoorTie
import Derived.Test.YtdfalhpbanhmeaaGreatDoorL2
namespace Go.Proofs.YtdfalhpbanhmeaaGreatDoor.showLoops
open Go.ChangeShapes Go.WideShapes Go.ChangeAt Go.RowKit

/-- ████ THE STATEMENT ████ -/
theorem proved : Rows.ShowLoopsCardSaid :=
  Claim7.holds_tied_plain_at .later [] [.data, .data, .data, .data, .pinned] true (true, "887914769b3fd08e67133d227791290ffca99f11d11286fd9304f0a09ee4b4b2") true
    over (fun _ h => by cases h) (by kernel_rfl) (fun _ h => by cases h) showLoops_row_tie rfl ⟨rfl, rfl⟩ (by kernel_rfl) rfl
    (fun f fn hf hfn => by
      obtain rfl : f = 3 := Option.some.inj ((show Tryz.prog.funcNamed "lexicon/lexiconlaw22.ShowLoops" = some 3 by kernel_rfl).symm.trans hf) |>.symm
      obtain rfl : fn = Tryz.f3 := (Option.some.inj (Tryz.func3.symm.trans hfn)).symm
      exact ⟨by kernel_rfl, fun j t ht => by
        rw [Tryz.params3] at ht
        rcases j with _ | j
        · obtain rfl : t = 3 := by simpa using ht.symm
          exact (show Tryz.prog.wantsStandIn 3 = false by kernel_rfl)
        · simp at ht⟩)
    (by kernel_rfl)
end Go.Proofs.YtdfalhpbanhmeaaGreatDoor.showLoops
