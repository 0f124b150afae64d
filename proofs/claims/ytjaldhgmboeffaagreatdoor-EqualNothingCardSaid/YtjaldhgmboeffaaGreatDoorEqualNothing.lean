/-
  EqualNothing returns true for whatever terms and two numbers; the arguments read as they did.
  The shell is turned from the kit's worked proofs; the walk is our own.
-/
import Derived.Test.YtjaldhgmboeffaaGreatDoorG54
import Derived.Test.YtjaldhgmboeffaaGreatDoorCards
import Derived.Test.YtjaldhgmboeffaaGreatDoorTie
import Derived.ChangeOld
import Derived.ChangeSame
import Derived.LaidHandle
import Derived.Carry
import Derived.Stop.Joined
import Derived.Test.YtjaldhgmboeffaaGreatDoorG48
import Derived.Test.YtjaldhgmboeffaaGreatDoorG49
import Derived.Test.YtjaldhgmboeffaaGreatDoorG50
import Derived.Test.YtjaldhgmboeffaaGreatDoorG51
import Derived.Test.YtjaldhgmboeffaaGreatDoorG52

namespace Go.Proofs.YtjaldhgmboeffaaGreatDoor.equalNothing
open Go.ChangeShapes Go.WideShapes Go.ChangeAt Go.RowKit
theorem proved:Rows.EqualNothingCardSaid:=
 Claim7.holds_tied_plain_at .later [] [.data, .data, .data, .data, .pinned] true (true, "19104c465bc95891cd2f9655997030105c73293309b3d12d2d1c7de44defe14e") true
  over (fun _ h=>by cases h) (by kernel_rfl) (fun _ h=>by cases h) equalNothing_row_tie rfl ⟨rfl,rfl⟩ (by kernel_rfl) rfl
  (fun f fn hf hfn=>by
   obtain rfl : f = 3 := Option.some.inj ((show Tryz.prog.funcNamed "lexicon/lexiconlaw20.EqualNothing" = some 3 by kernel_rfl).symm.trans hf) |>.symm
   obtain rfl:fn=Tryz.f3:=(Option.some.inj (Tryz.func3.symm.trans hfn)).symm
   exact⟨by kernel_rfl,fun j t ht=>by
    rw [Tryz.params3]at ht;rcases j with _ | _ | _ | j
    ·obtain rfl:t=22:=by simpa using ht.symm
     exact (show Tryz.prog.wantsStandIn 22=false by kernel_rfl)
    ·obtain rfl:t=3:=by simpa using ht.symm
     exact (show Tryz.prog.wantsStandIn 3=false by kernel_rfl)
    ·obtain rfl:t=3:=by simpa using ht.symm
     exact (show Tryz.prog.wantsStandIn 3=false by kernel_rfl)
    ·simp at ht⟩)
  GB
end Go.Proofs.YtjaldhgmboeffaaGreatDoor.equalNothing
