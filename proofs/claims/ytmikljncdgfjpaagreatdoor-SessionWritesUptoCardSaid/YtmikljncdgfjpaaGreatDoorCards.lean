/-
  DERIVED. GIVEN WITH THE SEED: THE CARDS: each row of YtmikljncdgfjpaaGreatDoorRows.lean that lists a variable, with what it lists TIED to the program's text (the seventh form; the later family's looks); each row that meets fmt, with fmt's text TOLD by the authors' own Lean function (tested against real Go, not proved from fmt's source: count such statements apart). THE CARD IS WHAT COUNTS. Prove the row's statement (the work); the ties are given (YtmikljncdgfjpaaGreatDoorTie.lean); close each card by the builder's one call (the guide's Derived/Test/ToyasCard.lean, 'card_holds'). Laid BY PROGRAM, IN A SANDBOX (cutbox-door.mjs). By AI agents, Wed Nov 11 2026. No macro, syntax, notation, axiom, sorry.
-/
import Derived.Test.YtmikljncdgfjpaaGreatDoorRows
import GoSem.ClaimSeven
namespace Go.Proofs.YtmikljncdgfjpaaGreatDoor
namespace Rows

/-- THE TIED CARD OF 'corollarylaw31.SessionReads'. -/
def sessionReadsCard : Claim7 := { stood := { row := sessionReadsRow, standIns := [], harness := (true, "3c2b87616dc6e07c8b9c9bbcf0285c545a0d51110ca105452bddfe75e494946c"), looks := false }, kinds := [], alts := [], laidByText := true, laidKinds := [.data, .pinned], laidTests := true, laidLooks := .later }
def SessionReadsCardSaid : Prop := Claim7.holds Tryz.pinned (.plain (OpenSpec.ofChange sessionReadsSpec)) sessionReadsCard

/-- THE TIED CARD OF 'corollarylaw31.SessionWrites'. -/
def sessionWritesCard : Claim7 := { stood := { row := sessionWritesRow, standIns := [], harness := (true, "3c2b87616dc6e07c8b9c9bbcf0285c545a0d51110ca105452bddfe75e494946c"), looks := false }, kinds := [], alts := [], laidByText := true, laidKinds := [.data, .pinned], laidTests := true, laidLooks := .later }
def SessionWritesCardSaid : Prop := Claim7.holds Tryz.pinned (.plain (OpenSpec.ofChange sessionWritesSpec)) sessionWritesCard

/-- THE SECOND FORM's CARD OF 'corollarylaw31.SessionReads'. -/
def sessionReadsUptoCard : Claim7 := { stood := { row := sessionReadsUptoRow, standIns := [], harness := (true, "3c2b87616dc6e07c8b9c9bbcf0285c545a0d51110ca105452bddfe75e494946c"), looks := false }, kinds := [], alts := [], laidByText := true, laidKinds := [.data, .pinned], laidTests := true, laidLooks := .later }
def SessionReadsUptoCardSaid : Prop := Claim7.holds Tryz.pinned (.plain (OpenSpec.upto sessionReadsSpec)) sessionReadsUptoCard

/-- THE SECOND FORM's CARD OF 'corollarylaw31.SessionWrites'. -/
def sessionWritesUptoCard : Claim7 := { stood := { row := sessionWritesUptoRow, standIns := [], harness := (true, "3c2b87616dc6e07c8b9c9bbcf0285c545a0d51110ca105452bddfe75e494946c"), looks := false }, kinds := [], alts := [], laidByText := true, laidKinds := [.data, .pinned], laidTests := true, laidLooks := .later }
def SessionWritesUptoCardSaid : Prop := Claim7.holds Tryz.pinned (.plain (OpenSpec.upto sessionWritesSpec)) sessionWritesUptoCard
end Rows
end Go.Proofs.YtmikljncdgfjpaaGreatDoor
