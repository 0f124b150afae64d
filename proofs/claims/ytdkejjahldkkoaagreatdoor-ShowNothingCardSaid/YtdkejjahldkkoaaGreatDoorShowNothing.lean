/-
  ShowNothing returns true for whatever terms and a number and a yes; the arguments read as they did.
  The shell is turned from the kit's worked proofs; the walk is our own.
-/
import Derived.Test.YtdkejjahldkkoaaGreatDoorG49
import Derived.Test.YtdkejjahldkkoaaGreatDoorG50
import Derived.Test.YtdkejjahldkkoaaGreatDoorTie
set_option linter.unusedSimpArgs false
set_option linter.unusedVariables false
set_option linter.unusedSectionVars false
namespace Go.Proofs.YtdkejjahldkkoaaGreatDoor.showNothing
open Go.ChangeShapes Go.WideShapes Go.ChangeAt Go.RowKit
theorem proved:Rows.ShowNothingCardSaid:=
 Claim7.holds_tied_plain_at .later [] [.data, .data, .data, .data, .pinned] true (true, "37b55f1c730dfc4caa3f9f42b72c4dea5b41691ad7470a190e35db5516347c58") true
  over (fun _ h=>by cases h) (by kernel_rfl) (fun _ h=>by cases h) showNothing_row_tie rfl ⟨rfl,rfl⟩ (by kernel_rfl) rfl
  (fun f fn hf hfn=>by
   obtain rfl : f = 3 := Option.some.inj ((show Tryz.prog.funcNamed "lexicon/lexiconlaw22.ShowNothing" = some 3 by kernel_rfl).symm.trans hf) |>.symm
   obtain rfl:fn=Tryz.f3:=(Option.some.inj (Tryz.func3.symm.trans hfn)).symm
   exact⟨by kernel_rfl,fun j t ht=>by
    rw [Tryz.params3]at ht;rcases j with _ | _ | _ | j
    ·obtain rfl:t=22:=by simpa using ht.symm
     exact (show Tryz.prog.wantsStandIn 22=false by kernel_rfl)
    ·obtain rfl:t=3:=by simpa using ht.symm
     exact (show Tryz.prog.wantsStandIn 3=false by kernel_rfl)
    ·obtain rfl:t=4:=by simpa using ht.symm
     exact (show Tryz.prog.wantsStandIn 4=false by kernel_rfl)
    ·simp at ht⟩)
  NP
end Go.Proofs.YtdkejjahldkkoaaGreatDoor.showNothing
