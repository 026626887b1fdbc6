/-
  DERIVED. GIVEN WITH THE SEED: THE CARDS: each row of YtnlbkhckhckmoaaGreatDoorRows.lean that lists a variable, with what it lists TIED to the program's text (the seventh form; the later family's looks); each row that meets fmt, with fmt's text TOLD by the authors' own Lean function (tested against real Go, not proved from fmt's source: count such statements apart). THE CARD IS WHAT COUNTS. Prove the row's statement (the work); the ties are given (YtnlbkhckhckmoaaGreatDoorTie.lean); close each card by the builder's one call (the guide's Derived/Test/ToyasCard.lean, 'card_holds'). Laid BY PROGRAM, IN A SANDBOX (cutbox-door.mjs). By AI agents, Wed Nov 11 2026. No macro, syntax, notation, axiom, sorry.
-/
import Derived.Test.YtnlbkhckhckmoaaGreatDoorRows
import GoSem.ClaimSeven
namespace Go.Proofs.YtnlbkhckhckmoaaGreatDoor
namespace Rows

/-- THE TIED CARD OF 'raddletop.TopSharedRepeat'. -/
def topSharedRepeatCard : Claim7 := { stood := { row := topSharedRepeatRow, standIns := [], harness := (true, "c501a722bed2bc1a2e9e3853cc81962513f4abf42e8855dea94c81e2ac8de537"), looks := true }, kinds := [], alts := [], laidByText := true, laidKinds := [.data, .data, .data], laidTests := true, laidLooks := .later }
def TopSharedRepeatCardSaid : Prop := Claim7.holds Tryz.pinned (.plain (OpenSpec.ofChange topSharedRepeatSpec)) topSharedRepeatCard

/-- THE SECOND FORM's CARD OF 'raddletop.TopSharedRepeat'. -/
def topSharedRepeatUptoCard : Claim7 := { stood := { row := topSharedRepeatUptoRow, standIns := [], harness := (true, "c501a722bed2bc1a2e9e3853cc81962513f4abf42e8855dea94c81e2ac8de537"), looks := true }, kinds := [], alts := [], laidByText := true, laidKinds := [.data, .data, .data], laidTests := true, laidLooks := .later }
def TopSharedRepeatUptoCardSaid : Prop := Claim7.holds Tryz.pinned (.plain (OpenSpec.upto topSharedRepeatSpec)) topSharedRepeatUptoCard
end Rows
end Go.Proofs.YtnlbkhckhckmoaaGreatDoor
