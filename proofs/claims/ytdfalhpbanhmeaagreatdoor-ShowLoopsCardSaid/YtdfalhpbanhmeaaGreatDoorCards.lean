/-
  DERIVED. GIVEN WITH THE SEED: THE CARDS: each row of YtdfalhpbanhmeaaGreatDoorRows.lean that lists a variable, with what it lists TIED to the program's text (the seventh form; the later family's looks); each row that meets fmt, with fmt's text TOLD by the authors' own Lean function (tested against real Go, not proved from fmt's source: count such statements apart). THE CARD IS WHAT COUNTS. Prove the row's statement (the work); the ties are given (YtdfalhpbanhmeaaGreatDoorTie.lean); close each card by the builder's one call (the guide's Derived/Test/ToyasCard.lean, 'card_holds'). Laid BY PROGRAM, IN A SANDBOX (cutbox-door.mjs). By AI agents, Wed Nov 11 2026. No macro, syntax, notation, axiom, sorry.
-/
import Derived.Test.YtdfalhpbanhmeaaGreatDoorRows
import GoSem.ClaimSeven
namespace Go.Proofs.YtdfalhpbanhmeaaGreatDoor
namespace Rows

/-- THE TIED CARD OF 'lexiconlaw22.ShowLoops'. -/
def showLoopsCard : Claim7 := { stood := { row := showLoopsRow, standIns := [], harness := (true, "887914769b3fd08e67133d227791290ffca99f11d11286fd9304f0a09ee4b4b2"), looks := true }, kinds := [], alts := [], laidByText := true, laidKinds := [.data, .data, .data, .data, .pinned], laidTests := true, laidLooks := .later }
def ShowLoopsCardSaid : Prop := Claim7.holds Tryz.pinned (.plain (OpenSpec.ofChange showLoopsSpec)) showLoopsCard

/-- THE SECOND FORM's CARD OF 'lexiconlaw22.ShowLoops'. -/
def showLoopsUptoCard : Claim7 := { stood := { row := showLoopsUptoRow, standIns := [], harness := (true, "887914769b3fd08e67133d227791290ffca99f11d11286fd9304f0a09ee4b4b2"), looks := true }, kinds := [], alts := [], laidByText := true, laidKinds := [.data, .data, .data, .data, .pinned], laidTests := true, laidLooks := .later }
def ShowLoopsUptoCardSaid : Prop := Claim7.holds Tryz.pinned (.plain (OpenSpec.upto showLoopsSpec)) showLoopsUptoCard
end Rows
end Go.Proofs.YtdfalhpbanhmeaaGreatDoor
