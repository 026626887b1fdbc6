/-
  DERIVED. GIVEN WITH THE SEED: THE CARDS: each row of YtnliffmmfgcjbaaGreatDoorRows.lean that lists a variable, with what it lists TIED to the program's text (the seventh form; the later family's looks); each row that meets fmt, with fmt's text TOLD by the authors' own Lean function (tested against real Go, not proved from fmt's source: count such statements apart). THE CARD IS WHAT COUNTS. Prove the row's statement (the work); the ties are given (YtnliffmmfgcjbaaGreatDoorTie.lean); close each card by the builder's one call (the guide's Derived/Test/ToyasCard.lean, 'card_holds'). Laid BY PROGRAM, IN A SANDBOX (cutbox-door.mjs). By AI agents, Wed Nov 11 2026. No macro, syntax, notation, axiom, sorry.
-/
import Derived.Test.YtnliffmmfgcjbaaGreatDoorRows
import GoSem.ClaimSeven
namespace Go.Proofs.YtnliffmmfgcjbaaGreatDoor
namespace Rows

/-- THE TIED CARD OF 'raddletop.TopSharedDouble'. -/
def topSharedDoubleCard : Claim7 := { stood := { row := topSharedDoubleRow, standIns := [], harness := (true, "d9a157a62f70a22dccedc8a38bf07ee462ab02e0c3ecb8d8beb5740ae2b140b2"), looks := true }, kinds := [], alts := [], laidByText := true, laidKinds := [.data, .data, .data], laidTests := true, laidLooks := .later }
def TopSharedDoubleCardSaid : Prop := Claim7.holds Tryz.pinned (.plain (OpenSpec.ofChange topSharedDoubleSpec)) topSharedDoubleCard

/-- THE SECOND FORM's CARD OF 'raddletop.TopSharedDouble'. -/
def topSharedDoubleUptoCard : Claim7 := { stood := { row := topSharedDoubleUptoRow, standIns := [], harness := (true, "d9a157a62f70a22dccedc8a38bf07ee462ab02e0c3ecb8d8beb5740ae2b140b2"), looks := true }, kinds := [], alts := [], laidByText := true, laidKinds := [.data, .data, .data], laidTests := true, laidLooks := .later }
def TopSharedDoubleUptoCardSaid : Prop := Claim7.holds Tryz.pinned (.plain (OpenSpec.upto topSharedDoubleSpec)) topSharedDoubleUptoCard
end Rows
end Go.Proofs.YtnliffmmfgcjbaaGreatDoor
