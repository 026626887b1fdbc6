/-
  DERIVED. GIVEN WITH THE SEED: THE CARDS: each row of YtlbbngkplehnpaaGreatDoorRows.lean that lists a variable, with what it lists TIED to the program's text (the seventh form; the later family's looks); each row that meets fmt, with fmt's text TOLD by the authors' own Lean function (tested against real Go, not proved from fmt's source: count such statements apart). THE CARD IS WHAT COUNTS. Prove the row's statement (the work); the ties are given (YtlbbngkplehnpaaGreatDoorTie.lean); close each card by the builder's one call (the guide's Derived/Test/ToyasCard.lean, 'card_holds'). Laid BY PROGRAM, IN A SANDBOX (cutbox-door.mjs). By AI agents, Wed Nov 11 2026. No macro, syntax, notation, axiom, sorry.
-/
import Derived.Test.YtlbbngkplehnpaaGreatDoorRows
import GoSem.ClaimSeven
namespace Go.Proofs.YtlbbngkplehnpaaGreatDoor
namespace Rows

/-- THE TIED CARD OF 'raddletop.TopSharedSett'. -/
def topSharedSettCard : Claim7 := { stood := { row := topSharedSettRow, standIns := [], harness := (true, "4b61061630b2e1dc5ad480b143233ec735aa0c5563ce232366f2e432af6c533b"), looks := true }, kinds := [], alts := [], laidByText := true, laidKinds := [.data, .data, .data], laidTests := true, laidLooks := .later }
def TopSharedSettCardSaid : Prop := Claim7.holds Tryz.pinned (.plain (OpenSpec.ofChange topSharedSettSpec)) topSharedSettCard

/-- THE SECOND FORM's CARD OF 'raddletop.TopSharedSett'. -/
def topSharedSettUptoCard : Claim7 := { stood := { row := topSharedSettUptoRow, standIns := [], harness := (true, "4b61061630b2e1dc5ad480b143233ec735aa0c5563ce232366f2e432af6c533b"), looks := true }, kinds := [], alts := [], laidByText := true, laidKinds := [.data, .data, .data], laidTests := true, laidLooks := .later }
def TopSharedSettUptoCardSaid : Prop := Claim7.holds Tryz.pinned (.plain (OpenSpec.upto topSharedSettSpec)) topSharedSettUptoCard
end Rows
end Go.Proofs.YtlbbngkplehnpaaGreatDoor
