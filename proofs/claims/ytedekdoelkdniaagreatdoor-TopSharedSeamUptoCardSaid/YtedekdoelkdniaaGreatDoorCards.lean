/-
  DERIVED. GIVEN WITH THE SEED: THE CARDS: each row of YtedekdoelkdniaaGreatDoorRows.lean that lists a variable, with what it lists TIED to the program's text (the seventh form; the later family's looks); each row that meets fmt, with fmt's text TOLD by the authors' own Lean function (tested against real Go, not proved from fmt's source: count such statements apart). THE CARD IS WHAT COUNTS. Prove the row's statement (the work); the ties are given (YtedekdoelkdniaaGreatDoorTie.lean); close each card by the builder's one call (the guide's Derived/Test/ToyasCard.lean, 'card_holds'). Laid BY PROGRAM, IN A SANDBOX (cutbox-door.mjs). By AI agents, Wed Nov 11 2026. No macro, syntax, notation, axiom, sorry.
-/
import Derived.Test.YtedekdoelkdniaaGreatDoorRows
import GoSem.ClaimSeven
namespace Go.Proofs.YtedekdoelkdniaaGreatDoor
namespace Rows

/-- THE TIED CARD OF 'raddletop.TopSharedSeam'. -/
def topSharedSeamCard : Claim7 := { stood := { row := topSharedSeamRow, standIns := [], harness := (true, "1b884af576693fd12fc8cff91528a6167c88d01d37760dcdbf53f5469f67587e"), looks := true }, kinds := [], alts := [], laidByText := true, laidKinds := [.data, .data, .data], laidTests := true, laidLooks := .later }
def TopSharedSeamCardSaid : Prop := Claim7.holds Tryz.pinned (.plain (OpenSpec.ofChange topSharedSeamSpec)) topSharedSeamCard

/-- THE SECOND FORM's CARD OF 'raddletop.TopSharedSeam'. -/
def topSharedSeamUptoCard : Claim7 := { stood := { row := topSharedSeamUptoRow, standIns := [], harness := (true, "1b884af576693fd12fc8cff91528a6167c88d01d37760dcdbf53f5469f67587e"), looks := true }, kinds := [], alts := [], laidByText := true, laidKinds := [.data, .data, .data], laidTests := true, laidLooks := .later }
def TopSharedSeamUptoCardSaid : Prop := Claim7.holds Tryz.pinned (.plain (OpenSpec.upto topSharedSeamSpec)) topSharedSeamUptoCard
end Rows
end Go.Proofs.YtedekdoelkdniaaGreatDoor
