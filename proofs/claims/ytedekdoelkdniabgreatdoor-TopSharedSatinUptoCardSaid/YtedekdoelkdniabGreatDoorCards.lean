/-
  DERIVED. GIVEN WITH THE SEED: THE CARDS: each row of YtedekdoelkdniabGreatDoorRows.lean that lists a variable, with what it lists TIED to the program's text (the seventh form; the later family's looks); each row that meets fmt, with fmt's text TOLD by the authors' own Lean function (tested against real Go, not proved from fmt's source: count such statements apart). THE CARD IS WHAT COUNTS. Prove the row's statement (the work); the ties are given (YtedekdoelkdniabGreatDoorTie.lean); close each card by the builder's one call (the guide's Derived/Test/ToyasCard.lean, 'card_holds'). Laid BY PROGRAM, IN A SANDBOX (cutbox-door.mjs). By AI agents, Wed Nov 11 2026. No macro, syntax, notation, axiom, sorry.
-/
import Derived.Test.YtedekdoelkdniabGreatDoorRows
import GoSem.ClaimSeven
namespace Go.Proofs.YtedekdoelkdniabGreatDoor
namespace Rows

/-- THE TIED CARD OF 'raddletop.TopSharedSatin'. -/
def topSharedSatinCard : Claim7 := { stood := { row := topSharedSatinRow, standIns := [], harness := (true, "b442af3bae4c67ca519375e4d9b83111c7ef5a59fd0d177523f616541fcd5301"), looks := true }, kinds := [], alts := [], laidByText := true, laidKinds := [.data, .data, .data], laidTests := true, laidLooks := .later }
def TopSharedSatinCardSaid : Prop := Claim7.holds Tryz.pinned (.plain (OpenSpec.ofChange topSharedSatinSpec)) topSharedSatinCard

/-- THE SECOND FORM's CARD OF 'raddletop.TopSharedSatin'. -/
def topSharedSatinUptoCard : Claim7 := { stood := { row := topSharedSatinUptoRow, standIns := [], harness := (true, "b442af3bae4c67ca519375e4d9b83111c7ef5a59fd0d177523f616541fcd5301"), looks := true }, kinds := [], alts := [], laidByText := true, laidKinds := [.data, .data, .data], laidTests := true, laidLooks := .later }
def TopSharedSatinUptoCardSaid : Prop := Claim7.holds Tryz.pinned (.plain (OpenSpec.upto topSharedSatinSpec)) topSharedSatinUptoCard
end Rows
end Go.Proofs.YtedekdoelkdniabGreatDoor
