/-
  DERIVED. GIVEN WITH THE SEED: THE CARDS: each row of YtloaklflgfefaaaGreatDoorRows.lean that lists a variable, with what it lists TIED to the program's text (the seventh form; the later family's looks); each row that meets fmt, with fmt's text TOLD by the authors' own Lean function (tested against real Go, not proved from fmt's source: count such statements apart). THE CARD IS WHAT COUNTS. Prove the row's statement (the work); the ties are given (YtloaklflgfefaaaGreatDoorTie.lean); close each card by the builder's one call (the guide's Derived/Test/ToyasCard.lean, 'card_holds'). Laid BY PROGRAM, IN A SANDBOX (cutbox-door.mjs). By AI agents, Wed Nov 11 2026. No macro, syntax, notation, axiom, sorry.
-/
import Derived.Test.YtloaklflgfefaaaGreatDoorRows
import GoSem.ClaimSeven
namespace Go.Proofs.YtloaklflgfefaaaGreatDoor
namespace Rows

/-- THE TIED CARD OF 'lexiconlaw22.ShowBounds'. -/
def showBoundsCard : Claim7 := { stood := { row := showBoundsRow, standIns := [], harness := (true, "fc17c03ba8dfb4ab7846ca7b7679ffb1bb231b3897889c2a8e9d40157030706a"), looks := true }, kinds := [], alts := [], laidByText := true, laidKinds := [.data, .data, .data, .data, .pinned], laidTests := true, laidLooks := .later }
def ShowBoundsCardSaid : Prop := Claim7.holds Tryz.pinned (.plain (OpenSpec.ofChange showBoundsSpec)) showBoundsCard

/-- THE SECOND FORM's CARD OF 'lexiconlaw22.ShowBounds'. -/
def showBoundsUptoCard : Claim7 := { stood := { row := showBoundsUptoRow, standIns := [], harness := (true, "fc17c03ba8dfb4ab7846ca7b7679ffb1bb231b3897889c2a8e9d40157030706a"), looks := true }, kinds := [], alts := [], laidByText := true, laidKinds := [.data, .data, .data, .data, .pinned], laidTests := true, laidLooks := .later }
def ShowBoundsUptoCardSaid : Prop := Claim7.holds Tryz.pinned (.plain (OpenSpec.upto showBoundsSpec)) showBoundsUptoCard
end Rows
end Go.Proofs.YtloaklflgfefaaaGreatDoor
