/-
  DERIVED. GIVEN WITH THE SEED: THE CARDS: each row of YtdobngcdgkallaaGreatDoorRows.lean that lists a variable, with what it lists TIED to the program's text (the seventh form; the later family's looks); each row that meets fmt, with fmt's text TOLD by the authors' own Lean function (tested against real Go, not proved from fmt's source: count such statements apart). THE CARD IS WHAT COUNTS. Prove the row's statement (the work); the ties are given (YtdobngcdgkallaaGreatDoorTie.lean); close each card by the builder's one call (the guide's Derived/Test/ToyasCard.lean, 'card_holds'). Laid BY PROGRAM, IN A SANDBOX (cutbox-door.mjs). By AI agents, Wed Nov 11 2026. No macro, syntax, notation, axiom, sorry.
-/
import Derived.Test.YtdobngcdgkallaaGreatDoorRows
import GoSem.ClaimSeven
namespace Go.Proofs.YtdobngcdgkallaaGreatDoor
namespace Rows

/-- THE TIED CARD OF 'corollarylaw19.AlgebraColumns'. -/
def algebraColumnsCard : Claim7 := { stood := { row := algebraColumnsRow, standIns := [], harness := (true, "086381b9eaa78b55c3c6e7e7ee0390cd4abccf26c33d5817492013191c249c5d"), looks := false }, kinds := [], alts := [], laidByText := true, laidKinds := [.data, .data, .data, .data, .pinned], laidTests := true, laidLooks := .later }
def AlgebraColumnsCardSaid : Prop := Claim7.holds Tryz.pinned (.plain (OpenSpec.ofChange algebraColumnsSpec)) algebraColumnsCard

/-- THE SECOND FORM's CARD OF 'corollarylaw19.AlgebraColumns'. -/
def algebraColumnsUptoCard : Claim7 := { stood := { row := algebraColumnsUptoRow, standIns := [], harness := (true, "086381b9eaa78b55c3c6e7e7ee0390cd4abccf26c33d5817492013191c249c5d"), looks := false }, kinds := [], alts := [], laidByText := true, laidKinds := [.data, .data, .data, .data, .pinned], laidTests := true, laidLooks := .later }
def AlgebraColumnsUptoCardSaid : Prop := Claim7.holds Tryz.pinned (.plain (OpenSpec.upto algebraColumnsSpec)) algebraColumnsUptoCard
end Rows
end Go.Proofs.YtdobngcdgkallaaGreatDoor
