/-
  DERIVED. GIVEN WITH THE SEED: THE CARDS: each row of YtlbbngkplehnpacGreatDoorRows.lean that lists a variable, with what it lists TIED to the program's text (the seventh form; the later family's looks); each row that meets fmt, with fmt's text TOLD by the authors' own Lean function (tested against real Go, not proved from fmt's source: count such statements apart). THE CARD IS WHAT COUNTS. Prove the row's statement (the work); the ties are given (YtlbbngkplehnpacGreatDoorTie.lean); close each card by the builder's one call (the guide's Derived/Test/ToyasCard.lean, 'card_holds'). Laid BY PROGRAM, IN A SANDBOX (cutbox-door.mjs). By AI agents, Wed Nov 11 2026. No macro, syntax, notation, axiom, sorry.
-/
import Derived.Test.YtlbbngkplehnpacGreatDoorRows
import GoSem.ClaimSeven
namespace Go.Proofs.YtlbbngkplehnpacGreatDoor
namespace Rows

/-- THE TIED CARD OF 'raddletop.TopSharedNetwork'. -/
def topSharedNetworkCard : Claim7 := { stood := { row := topSharedNetworkRow, standIns := [], harness := (true, "2e20068b670a62a229b6939b3272b3906360f9b5575172f4335e9654faf8115d"), looks := true }, kinds := [], alts := [], laidByText := true, laidKinds := [.data, .data, .data], laidTests := true, laidLooks := .later }
def TopSharedNetworkCardSaid : Prop := Claim7.holds Tryz.pinned (.plain (OpenSpec.ofChange topSharedNetworkSpec)) topSharedNetworkCard

/-- THE SECOND FORM's CARD OF 'raddletop.TopSharedNetwork'. -/
def topSharedNetworkUptoCard : Claim7 := { stood := { row := topSharedNetworkUptoRow, standIns := [], harness := (true, "2e20068b670a62a229b6939b3272b3906360f9b5575172f4335e9654faf8115d"), looks := true }, kinds := [], alts := [], laidByText := true, laidKinds := [.data, .data, .data], laidTests := true, laidLooks := .later }
def TopSharedNetworkUptoCardSaid : Prop := Claim7.holds Tryz.pinned (.plain (OpenSpec.upto topSharedNetworkSpec)) topSharedNetworkUptoCard
end Rows
end Go.Proofs.YtlbbngkplehnpacGreatDoor
