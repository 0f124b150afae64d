/-
  DERIVED. GIVEN WITH THE SEED: THE CARDS: each row of YtjaldhgmboeffaaGreatDoorRows.lean that lists a variable, with what it lists TIED to the program's text (the seventh form; the later family's looks); each row that meets fmt, with fmt's text TOLD by the authors' own Lean function (tested against real Go, not proved from fmt's source: count such statements apart). THE CARD IS WHAT COUNTS. Prove the row's statement (the work); the ties are given (YtjaldhgmboeffaaGreatDoorTie.lean); close each card by the builder's one call (the guide's Derived/Test/ToyasCard.lean, 'card_holds'). Laid BY PROGRAM, IN A SANDBOX (cutbox-door.mjs). By AI agents, Wed Nov 11 2026. No macro, syntax, notation, axiom, sorry.
-/
import Derived.Test.YtjaldhgmboeffaaGreatDoorRows
import GoSem.ClaimSeven
namespace Go.Proofs.YtjaldhgmboeffaaGreatDoor
namespace Rows

/-- THE TIED CARD OF 'lexiconlaw20.EqualNothing'. -/
def equalNothingCard : Claim7 := { stood := { row := equalNothingRow, standIns := [], harness := (true, "19104c465bc95891cd2f9655997030105c73293309b3d12d2d1c7de44defe14e"), looks := true }, kinds := [], alts := [], laidByText := true, laidKinds := [.data, .data, .data, .data, .pinned], laidTests := true, laidLooks := .later }
def EqualNothingCardSaid : Prop := Claim7.holds Tryz.pinned (.plain (OpenSpec.ofChange equalNothingSpec)) equalNothingCard

/-- THE SECOND FORM's CARD OF 'lexiconlaw20.EqualNothing'. -/
def equalNothingUptoCard : Claim7 := { stood := { row := equalNothingUptoRow, standIns := [], harness := (true, "19104c465bc95891cd2f9655997030105c73293309b3d12d2d1c7de44defe14e"), looks := true }, kinds := [], alts := [], laidByText := true, laidKinds := [.data, .data, .data, .data, .pinned], laidTests := true, laidLooks := .later }
def EqualNothingUptoCardSaid : Prop := Claim7.holds Tryz.pinned (.plain (OpenSpec.upto equalNothingSpec)) equalNothingUptoCard
end Rows
end Go.Proofs.YtjaldhgmboeffaaGreatDoor
