/-
  DERIVED. GIVEN WITH THE SEED: THE CARDS: each row of YtackjebfmbnkbaaGreatDoorRows.lean that lists a variable, with what it lists TIED to the program's text (the seventh form; the later family's looks); each row that meets fmt, with fmt's text TOLD by the authors' own Lean function (tested against real Go, not proved from fmt's source: count such statements apart). THE CARD IS WHAT COUNTS. Prove the row's statement (the work); the ties are given (YtackjebfmbnkbaaGreatDoorTie.lean); close each card by the builder's one call (the guide's Derived/Test/ToyasCard.lean, 'card_holds'). Laid BY PROGRAM, IN A SANDBOX (cutbox-door.mjs). By AI agents, Wed Nov 11 2026. No macro, syntax, notation, axiom, sorry.
-/
import Derived.Test.YtackjebfmbnkbaaGreatDoorRows
import GoSem.ClaimSeven
namespace Go.Proofs.YtackjebfmbnkbaaGreatDoor
namespace Rows

/-- THE TIED CARD OF 'corollarylaw19.AlgebraNames'. -/
def algebraNamesCard : Claim7 := { stood := { row := algebraNamesRow, standIns := [], harness := (true, "a728176945d9a217baf6b9ba43cbcb3b9f3e7021cd92f4d48fd24800ba138353"), looks := true }, kinds := [], alts := [], laidByText := true, laidKinds := [.data, .data, .data, .data, .sentinel, .sentinel, .pinned], laidTests := true, laidLooks := .later }
def AlgebraNamesCardSaid : Prop := Claim7.holds Tryz.pinned (.plain (OpenSpec.ofChange algebraNamesSpec)) algebraNamesCard

/-- THE TIED CARD OF 'corollarylaw19.AlgebraJoins'. -/
def algebraJoinsCard : Claim7 := { stood := { row := algebraJoinsRow, standIns := [], harness := (true, "a728176945d9a217baf6b9ba43cbcb3b9f3e7021cd92f4d48fd24800ba138353"), looks := true }, kinds := [], alts := [], laidByText := true, laidKinds := [.data, .data, .data, .data, .sentinel, .sentinel, .pinned], laidTests := true, laidLooks := .later }
def AlgebraJoinsCardSaid : Prop := Claim7.holds Tryz.pinned (.plain (OpenSpec.ofChange algebraJoinsSpec)) algebraJoinsCard

/-- THE TIED CARD OF 'corollarylaw19.AlgebraParts'. -/
def algebraPartsCard : Claim7 := { stood := { row := algebraPartsRow, standIns := [], harness := (true, "a728176945d9a217baf6b9ba43cbcb3b9f3e7021cd92f4d48fd24800ba138353"), looks := true }, kinds := [], alts := [], laidByText := true, laidKinds := [.data, .data, .data, .data, .sentinel, .sentinel, .pinned], laidTests := true, laidLooks := .later }
def AlgebraPartsCardSaid : Prop := Claim7.holds Tryz.pinned (.plain (OpenSpec.ofChange algebraPartsSpec)) algebraPartsCard

/-- THE TIED CARD OF 'corollarylaw19.AlgebraMore'. -/
def algebraMoreCard : Claim7 := { stood := { row := algebraMoreRow, standIns := [], harness := (true, "a728176945d9a217baf6b9ba43cbcb3b9f3e7021cd92f4d48fd24800ba138353"), looks := true }, kinds := [], alts := [], laidByText := true, laidKinds := [.data, .data, .data, .data, .sentinel, .sentinel, .pinned], laidTests := true, laidLooks := .later }
def AlgebraMoreCardSaid : Prop := Claim7.holds Tryz.pinned (.plain (OpenSpec.ofChange algebraMoreSpec)) algebraMoreCard

/-- THE TIED CARD OF 'corollarylaw19.AlgebraFilters'. -/
def algebraFiltersCard : Claim7 := { stood := { row := algebraFiltersRow, standIns := [], harness := (true, "a728176945d9a217baf6b9ba43cbcb3b9f3e7021cd92f4d48fd24800ba138353"), looks := true }, kinds := [], alts := [], laidByText := true, laidKinds := [.data, .data, .data, .data, .sentinel, .sentinel, .pinned], laidTests := true, laidLooks := .later }
def AlgebraFiltersCardSaid : Prop := Claim7.holds Tryz.pinned (.plain (OpenSpec.ofChange algebraFiltersSpec)) algebraFiltersCard

/-- THE SECOND FORM's CARD OF 'corollarylaw19.AlgebraNames'. -/
def algebraNamesUptoCard : Claim7 := { stood := { row := algebraNamesUptoRow, standIns := [], harness := (true, "a728176945d9a217baf6b9ba43cbcb3b9f3e7021cd92f4d48fd24800ba138353"), looks := true }, kinds := [], alts := [], laidByText := true, laidKinds := [.data, .data, .data, .data, .sentinel, .sentinel, .pinned], laidTests := true, laidLooks := .later }
def AlgebraNamesUptoCardSaid : Prop := Claim7.holds Tryz.pinned (.plain (OpenSpec.upto algebraNamesSpec)) algebraNamesUptoCard

/-- THE SECOND FORM's CARD OF 'corollarylaw19.AlgebraJoins'. -/
def algebraJoinsUptoCard : Claim7 := { stood := { row := algebraJoinsUptoRow, standIns := [], harness := (true, "a728176945d9a217baf6b9ba43cbcb3b9f3e7021cd92f4d48fd24800ba138353"), looks := true }, kinds := [], alts := [], laidByText := true, laidKinds := [.data, .data, .data, .data, .sentinel, .sentinel, .pinned], laidTests := true, laidLooks := .later }
def AlgebraJoinsUptoCardSaid : Prop := Claim7.holds Tryz.pinned (.plain (OpenSpec.upto algebraJoinsSpec)) algebraJoinsUptoCard

/-- THE SECOND FORM's CARD OF 'corollarylaw19.AlgebraParts'. -/
def algebraPartsUptoCard : Claim7 := { stood := { row := algebraPartsUptoRow, standIns := [], harness := (true, "a728176945d9a217baf6b9ba43cbcb3b9f3e7021cd92f4d48fd24800ba138353"), looks := true }, kinds := [], alts := [], laidByText := true, laidKinds := [.data, .data, .data, .data, .sentinel, .sentinel, .pinned], laidTests := true, laidLooks := .later }
def AlgebraPartsUptoCardSaid : Prop := Claim7.holds Tryz.pinned (.plain (OpenSpec.upto algebraPartsSpec)) algebraPartsUptoCard

/-- THE SECOND FORM's CARD OF 'corollarylaw19.AlgebraMore'. -/
def algebraMoreUptoCard : Claim7 := { stood := { row := algebraMoreUptoRow, standIns := [], harness := (true, "a728176945d9a217baf6b9ba43cbcb3b9f3e7021cd92f4d48fd24800ba138353"), looks := true }, kinds := [], alts := [], laidByText := true, laidKinds := [.data, .data, .data, .data, .sentinel, .sentinel, .pinned], laidTests := true, laidLooks := .later }
def AlgebraMoreUptoCardSaid : Prop := Claim7.holds Tryz.pinned (.plain (OpenSpec.upto algebraMoreSpec)) algebraMoreUptoCard

/-- THE SECOND FORM's CARD OF 'corollarylaw19.AlgebraFilters'. -/
def algebraFiltersUptoCard : Claim7 := { stood := { row := algebraFiltersUptoRow, standIns := [], harness := (true, "a728176945d9a217baf6b9ba43cbcb3b9f3e7021cd92f4d48fd24800ba138353"), looks := true }, kinds := [], alts := [], laidByText := true, laidKinds := [.data, .data, .data, .data, .sentinel, .sentinel, .pinned], laidTests := true, laidLooks := .later }
def AlgebraFiltersUptoCardSaid : Prop := Claim7.holds Tryz.pinned (.plain (OpenSpec.upto algebraFiltersSpec)) algebraFiltersUptoCard
end Rows
end Go.Proofs.YtackjebfmbnkbaaGreatDoor
