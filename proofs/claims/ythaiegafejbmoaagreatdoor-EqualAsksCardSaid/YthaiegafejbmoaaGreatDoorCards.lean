/-
  DERIVED. GIVEN WITH THE SEED: THE CARDS: each row of YthaiegafejbmoaaGreatDoorRows.lean that lists a variable, with what it lists TIED to the program's text (the seventh form; the later family's looks); each row that meets fmt, with fmt's text TOLD by the authors' own Lean function (tested against real Go, not proved from fmt's source: count such statements apart). THE CARD IS WHAT COUNTS. Prove the row's statement (the work); the ties are given (YthaiegafejbmoaaGreatDoorTie.lean); close each card by the builder's one call (the guide's Derived/Test/ToyasCard.lean, 'card_holds'). Laid BY PROGRAM, IN A SANDBOX (cutbox-door.mjs). By AI agents, Wed Nov 11 2026. No macro, syntax, notation, axiom, sorry.
-/
import Derived.Test.YthaiegafejbmoaaGreatDoorRows
import GoSem.ClaimSeven
namespace Go.Proofs.YthaiegafejbmoaaGreatDoor
namespace Rows

/-- THE TIED CARD OF 'lexiconlaw20.EqualAsks'. -/
def equalAsksCard : Claim7 := { stood := { row := equalAsksRow, standIns := [], harness := (true, "db9fe4b218b84bf52768ffc0e9b8276fba73a7600a126be21c3626ed9107efca"), looks := true }, kinds := [], alts := [], laidByText := true, laidKinds := [.data, .data, .data, .data, .pinned], laidTests := true, laidLooks := .later }
def EqualAsksCardSaid : Prop := Claim7.holds Tryz.pinned (.plain (OpenSpec.ofChange equalAsksSpec)) equalAsksCard

/-- THE SECOND FORM's CARD OF 'lexiconlaw20.EqualAsks'. -/
def equalAsksUptoCard : Claim7 := { stood := { row := equalAsksUptoRow, standIns := [], harness := (true, "db9fe4b218b84bf52768ffc0e9b8276fba73a7600a126be21c3626ed9107efca"), looks := true }, kinds := [], alts := [], laidByText := true, laidKinds := [.data, .data, .data, .data, .pinned], laidTests := true, laidLooks := .later }
def EqualAsksUptoCardSaid : Prop := Claim7.holds Tryz.pinned (.plain (OpenSpec.upto equalAsksSpec)) equalAsksUptoCard
end Rows
end Go.Proofs.YthaiegafejbmoaaGreatDoor
