/-
  EqualAsks returns true for whatever four numbers; the arguments read as they did.
  The shell is turned from the kit's worked proofs; the walk is our own.
-/
import Derived.Test.YthaiegafejbmoaaGreatDoorG52
import Derived.Test.YthaiegafejbmoaaGreatDoorG53
import Derived.Test.YthaiegafejbmoaaGreatDoorTie
set_option linter.unusedSimpArgs false
set_option linter.unusedVariables false
set_option linter.unusedSectionVars false
namespace Go.Proofs.YthaiegafejbmoaaGreatDoor.equalAsks
open Go.ChangeShapes Go.WideShapes Go.ChangeAt Go.RowKit
theorem proved:Rows.EqualAsksCardSaid:=
 Claim7.holds_tied_plain_at .later [] [.data, .data, .data, .data, .pinned] true (true, "db9fe4b218b84bf52768ffc0e9b8276fba73a7600a126be21c3626ed9107efca") true
  over (fun _ h=>by cases h) (by kernel_rfl) (fun _ h=>by cases h) equalAsks_row_tie rfl ⟨rfl,rfl⟩ (by kernel_rfl) rfl
  (fun f fn hf hfn=>by
   obtain rfl : f = 3 := Option.some.inj ((show Tryz.prog.funcNamed "lexicon/lexiconlaw20.EqualAsks" = some 3 by kernel_rfl).symm.trans hf) |>.symm
   obtain rfl:fn=Tryz.f3:=(Option.some.inj (Tryz.func3.symm.trans hfn)).symm
   exact⟨by kernel_rfl,fun j t ht=>by
    rw [Tryz.params3]at ht;rcases j with _ | _ | _ | _ | j
    ·obtain rfl:t=3:=by simpa using ht.symm
     exact (show Tryz.prog.wantsStandIn 3=false by kernel_rfl)
    ·obtain rfl:t=3:=by simpa using ht.symm
     exact (show Tryz.prog.wantsStandIn 3=false by kernel_rfl)
    ·obtain rfl:t=3:=by simpa using ht.symm
     exact (show Tryz.prog.wantsStandIn 3=false by kernel_rfl)
    ·obtain rfl:t=3:=by simpa using ht.symm
     exact (show Tryz.prog.wantsStandIn 3=false by kernel_rfl)
    ·simp at ht⟩)
  O7
end Go.Proofs.YthaiegafejbmoaaGreatDoor.equalAsks
