/-
  DERIVED. GIVEN WITH THE SEED: THE CARDS: each row of YtdefmnljihnfoaaGreatDoorRows.lean that lists a variable, with what it lists TIED to the program's text (the seventh form; the later family's looks); each row that meets fmt, with fmt's text TOLD by the authors' own Lean function (tested against real Go, not proved from fmt's source: count such statements apart). THE CARD IS WHAT COUNTS. Prove the row's statement (the work); the ties are given (YtdefmnljihnfoaaGreatDoorTie.lean); close each card by the builder's one call (the guide's Derived/Test/ToyasCard.lean, 'card_holds'). Laid BY PROGRAM, IN A SANDBOX (cutbox-door.mjs). By AI agents, Wed Nov 11 2026. No macro, syntax, notation, axiom, sorry.
-/
import Derived.Test.YtdefmnljihnfoaaGreatDoorRows
import GoSem.ClaimSeven
namespace Go.Proofs.YtdefmnljihnfoaaGreatDoor
namespace Rows

/-- THE TIED CARD OF 'lexiconlaw19.StoreNothing'. -/
def storeNothingCard : Claim7 := { stood := { row := storeNothingRow, standIns := [], harness := (true, "1cdbb24caa8da0a7ea7f1c9803f3375e0c797d9ea844f279d218dd27a8d8a99e"), looks := true }, kinds := [], alts := [], laidByText := true, laidKinds := [.data, .data, .data, .data, .pinned], laidTests := true, laidLooks := .later }
def StoreNothingCardSaid : Prop := Claim7.holds Tryz.pinned (.plain (OpenSpec.ofChange storeNothingSpec)) storeNothingCard

/-- THE SECOND FORM's CARD OF 'lexiconlaw19.StoreNothing'. -/
def storeNothingUptoCard : Claim7 := { stood := { row := storeNothingUptoRow, standIns := [], harness := (true, "1cdbb24caa8da0a7ea7f1c9803f3375e0c797d9ea844f279d218dd27a8d8a99e"), looks := true }, kinds := [], alts := [], laidByText := true, laidKinds := [.data, .data, .data, .data, .pinned], laidTests := true, laidLooks := .later }
def StoreNothingUptoCardSaid : Prop := Claim7.holds Tryz.pinned (.plain (OpenSpec.upto storeNothingSpec)) storeNothingUptoCard
end Rows
end Go.Proofs.YtdefmnljihnfoaaGreatDoor
