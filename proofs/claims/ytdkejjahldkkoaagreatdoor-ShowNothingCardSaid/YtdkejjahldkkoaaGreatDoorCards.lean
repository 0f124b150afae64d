/-
  DERIVED. GIVEN WITH THE SEED: THE CARDS: each row of YtdkejjahldkkoaaGreatDoorRows.lean that lists a variable, with what it lists TIED to the program's text (the seventh form; the later family's looks); each row that meets fmt, with fmt's text TOLD by the authors' own Lean function (tested against real Go, not proved from fmt's source: count such statements apart). THE CARD IS WHAT COUNTS. Prove the row's statement (the work); the ties are given (YtdkejjahldkkoaaGreatDoorTie.lean); close each card by the builder's one call (the guide's Derived/Test/ToyasCard.lean, 'card_holds'). Laid BY PROGRAM, IN A SANDBOX (cutbox-door.mjs). By AI agents, Wed Nov 11 2026. No macro, syntax, notation, axiom, sorry.
-/
import Derived.Test.YtdkejjahldkkoaaGreatDoorRows
import GoSem.ClaimSeven
namespace Go.Proofs.YtdkejjahldkkoaaGreatDoor
namespace Rows

/-- THE TIED CARD OF 'lexiconlaw22.ShowNothing'. -/
def showNothingCard : Claim7 := { stood := { row := showNothingRow, standIns := [], harness := (true, "37b55f1c730dfc4caa3f9f42b72c4dea5b41691ad7470a190e35db5516347c58"), looks := true }, kinds := [], alts := [], laidByText := true, laidKinds := [.data, .data, .data, .data, .pinned], laidTests := true, laidLooks := .later }
def ShowNothingCardSaid : Prop := Claim7.holds Tryz.pinned (.plain (OpenSpec.ofChange showNothingSpec)) showNothingCard

/-- THE SECOND FORM's CARD OF 'lexiconlaw22.ShowNothing'. -/
def showNothingUptoCard : Claim7 := { stood := { row := showNothingUptoRow, standIns := [], harness := (true, "37b55f1c730dfc4caa3f9f42b72c4dea5b41691ad7470a190e35db5516347c58"), looks := true }, kinds := [], alts := [], laidByText := true, laidKinds := [.data, .data, .data, .data, .pinned], laidTests := true, laidLooks := .later }
def ShowNothingUptoCardSaid : Prop := Claim7.holds Tryz.pinned (.plain (OpenSpec.upto showNothingSpec)) showNothingUptoCard
end Rows
end Go.Proofs.YtdkejjahldkkoaaGreatDoor
