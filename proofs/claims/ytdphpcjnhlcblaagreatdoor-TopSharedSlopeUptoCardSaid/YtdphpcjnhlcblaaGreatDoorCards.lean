/-
  DERIVED. GIVEN WITH THE SEED: THE CARDS: each row of YtdphpcjnhlcblaaGreatDoorRows.lean that lists a variable, with what it lists TIED to the program's text (the seventh form; the later family's looks); each row that meets fmt, with fmt's text TOLD by the authors' own Lean function (tested against real Go, not proved from fmt's source: count such statements apart). THE CARD IS WHAT COUNTS. Prove the row's statement (the work); the ties are given (YtdphpcjnhlcblaaGreatDoorTie.lean); close each card by the builder's one call (the guide's Derived/Test/ToyasCard.lean, 'card_holds'). Laid BY PROGRAM, IN A SANDBOX (cutbox-door.mjs). By AI agents, Wed Nov 11 2026. No macro, syntax, notation, axiom, sorry.
-/
import Derived.Test.YtdphpcjnhlcblaaGreatDoorRows
import GoSem.ClaimSeven
namespace Go.Proofs.YtdphpcjnhlcblaaGreatDoor
namespace Rows

/-- THE TIED CARD OF 'raddletop.TopSharedSlope'. -/
def topSharedSlopeCard : Claim7 := { stood := { row := topSharedSlopeRow, standIns := [], harness := (true, "e46e9889a9cdbf7c3e179c5abc25ec589f5fb7a505d8988559692ed7d408ef31"), looks := true }, kinds := [], alts := [], laidByText := true, laidKinds := [.data, .data, .data], laidTests := true, laidLooks := .later }
def TopSharedSlopeCardSaid : Prop := Claim7.holds Tryz.pinned (.plain (OpenSpec.ofChange topSharedSlopeSpec)) topSharedSlopeCard

/-- THE SECOND FORM's CARD OF 'raddletop.TopSharedSlope'. -/
def topSharedSlopeUptoCard : Claim7 := { stood := { row := topSharedSlopeUptoRow, standIns := [], harness := (true, "e46e9889a9cdbf7c3e179c5abc25ec589f5fb7a505d8988559692ed7d408ef31"), looks := true }, kinds := [], alts := [], laidByText := true, laidKinds := [.data, .data, .data], laidTests := true, laidLooks := .later }
def TopSharedSlopeUptoCardSaid : Prop := Claim7.holds Tryz.pinned (.plain (OpenSpec.upto topSharedSlopeSpec)) topSharedSlopeUptoCard
end Rows
end Go.Proofs.YtdphpcjnhlcblaaGreatDoor
