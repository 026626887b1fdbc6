/-
  DERIVED. GIVEN WITH THE SEED: THE CARDS: each row of YtlealajlicgddaaGreatDoorRows.lean that lists a variable, with what it lists TIED to the program's text (the seventh form; the later family's looks); each row that meets fmt, with fmt's text TOLD by the authors' own Lean function (tested against real Go, not proved from fmt's source: count such statements apart). THE CARD IS WHAT COUNTS. Prove the row's statement (the work); the ties are given (YtlealajlicgddaaGreatDoorTie.lean); close each card by the builder's one call (the guide's Derived/Test/ToyasCard.lean, 'card_holds'). Laid BY PROGRAM, IN A SANDBOX (cutbox-door.mjs). By AI agents, Wed Nov 11 2026. No macro, syntax, notation, axiom, sorry.
-/
import Derived.Test.YtlealajlicgddaaGreatDoorRows
import GoSem.ClaimSeven
namespace Go.Proofs.YtlealajlicgddaaGreatDoor
namespace Rows

/-- THE TIED CARD OF 'raddletop.TopSharedSley'. -/
def topSharedSleyCard : Claim7 := { stood := { row := topSharedSleyRow, standIns := [], harness := (true, "05d1121c183fc897b6f624bb7e0fb521d5275226cdfd61d8a0f11ab8868c4c77"), looks := true }, kinds := [], alts := [], laidByText := true, laidKinds := [.data, .data, .data], laidTests := true, laidLooks := .later }
def TopSharedSleyCardSaid : Prop := Claim7.holds Tryz.pinned (.plain (OpenSpec.ofChange topSharedSleySpec)) topSharedSleyCard

/-- THE SECOND FORM's CARD OF 'raddletop.TopSharedSley'. -/
def topSharedSleyUptoCard : Claim7 := { stood := { row := topSharedSleyUptoRow, standIns := [], harness := (true, "05d1121c183fc897b6f624bb7e0fb521d5275226cdfd61d8a0f11ab8868c4c77"), looks := true }, kinds := [], alts := [], laidByText := true, laidKinds := [.data, .data, .data], laidTests := true, laidLooks := .later }
def TopSharedSleyUptoCardSaid : Prop := Claim7.holds Tryz.pinned (.plain (OpenSpec.upto topSharedSleySpec)) topSharedSleyUptoCard
end Rows
end Go.Proofs.YtlealajlicgddaaGreatDoor
