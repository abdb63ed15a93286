/-
  DERIVED. GIVEN WITH THE SEED: THE CARDS: each row of YtipnoeffahnfaaaDoorRows.lean that lists a variable, with what it lists TIED to the program's text (the seventh form; the later family's looks); each row that meets fmt, with fmt's text TOLD by the authors' own Lean function (tested against real Go, not proved from fmt's source: count such statements apart). THE CARD IS WHAT COUNTS. Prove the row's statement (the work); the ties are given (YtipnoeffahnfaaaDoorTie.lean); close each card by the builder's one call (the guide's Derived/Test/ToyasCard.lean, 'card_holds'). Laid BY PROGRAM, IN A SANDBOX (cutbox-door.mjs). By AI agents, Wed Nov 11 2026. No macro, syntax, notation, axiom, sorry.
-/
import Derived.Test.YtipnoeffahnfaaaDoorRows
import GoSem.ClaimSeven
namespace Go.Proofs.YtipnoeffahnfaaaDoor
namespace Rows

/-- THE TIED CARD OF 'graverlaw25.CellsNumbers'. -/
def cellsNumbersCard : Claim7 := { stood := { row := cellsNumbersRow, standIns := [], harness := (true, "82102bc140c37232aed2a92e001acabb915236d9b5ab37585c242d8c1a869bfb"), looks := false }, kinds := [], alts := [], laidByText := true, laidKinds := [.data, .data, .data, .data, .pinned], laidTests := true, laidLooks := .later }
def CellsNumbersCardSaid : Prop := Claim7.holds Tryd.pinned (.plain (OpenSpec.ofChange cellsNumbersSpec)) cellsNumbersCard

/-- THE TIED CARD OF 'graverlaw25.CellsRows'. -/
def cellsRowsCard : Claim7 := { stood := { row := cellsRowsRow, standIns := [], harness := (true, "82102bc140c37232aed2a92e001acabb915236d9b5ab37585c242d8c1a869bfb"), looks := false }, kinds := [], alts := [], laidByText := true, laidKinds := [.data, .data, .data, .data, .pinned], laidTests := true, laidLooks := .later }
def CellsRowsCardSaid : Prop := Claim7.holds Tryd.pinned (.plain (OpenSpec.ofChange cellsRowsSpec)) cellsRowsCard

/-- THE TIED CARD OF 'graverlaw25.CellsParses'. -/
def cellsParsesCard : Claim7 := { stood := { row := cellsParsesRow, standIns := [], harness := (true, "82102bc140c37232aed2a92e001acabb915236d9b5ab37585c242d8c1a869bfb"), looks := false }, kinds := [], alts := [], laidByText := true, laidKinds := [.data, .data, .data, .data, .pinned], laidTests := true, laidLooks := .later }
def CellsParsesCardSaid : Prop := Claim7.holds Tryd.pinned (.plain (OpenSpec.ofChange cellsParsesSpec)) cellsParsesCard

/-- THE TIED CARD OF 'graverlaw25.CellsColumns'. -/
def cellsColumnsCard : Claim7 := { stood := { row := cellsColumnsRow, standIns := [], harness := (true, "82102bc140c37232aed2a92e001acabb915236d9b5ab37585c242d8c1a869bfb"), looks := false }, kinds := [], alts := [], laidByText := true, laidKinds := [.data, .data, .data, .data, .pinned], laidTests := true, laidLooks := .later }
def CellsColumnsCardSaid : Prop := Claim7.holds Tryd.pinned (.plain (OpenSpec.ofChange cellsColumnsSpec)) cellsColumnsCard

/-- THE SECOND FORM's CARD OF 'graverlaw25.CellsNumbers'. -/
def cellsNumbersUptoCard : Claim7 := { stood := { row := cellsNumbersUptoRow, standIns := [], harness := (true, "82102bc140c37232aed2a92e001acabb915236d9b5ab37585c242d8c1a869bfb"), looks := false }, kinds := [], alts := [], laidByText := true, laidKinds := [.data, .data, .data, .data, .pinned], laidTests := true, laidLooks := .later }
def CellsNumbersUptoCardSaid : Prop := Claim7.holds Tryd.pinned (.plain (OpenSpec.upto cellsNumbersSpec)) cellsNumbersUptoCard

/-- THE SECOND FORM's CARD OF 'graverlaw25.CellsRows'. -/
def cellsRowsUptoCard : Claim7 := { stood := { row := cellsRowsUptoRow, standIns := [], harness := (true, "82102bc140c37232aed2a92e001acabb915236d9b5ab37585c242d8c1a869bfb"), looks := false }, kinds := [], alts := [], laidByText := true, laidKinds := [.data, .data, .data, .data, .pinned], laidTests := true, laidLooks := .later }
def CellsRowsUptoCardSaid : Prop := Claim7.holds Tryd.pinned (.plain (OpenSpec.upto cellsRowsSpec)) cellsRowsUptoCard

/-- THE SECOND FORM's CARD OF 'graverlaw25.CellsParses'. -/
def cellsParsesUptoCard : Claim7 := { stood := { row := cellsParsesUptoRow, standIns := [], harness := (true, "82102bc140c37232aed2a92e001acabb915236d9b5ab37585c242d8c1a869bfb"), looks := false }, kinds := [], alts := [], laidByText := true, laidKinds := [.data, .data, .data, .data, .pinned], laidTests := true, laidLooks := .later }
def CellsParsesUptoCardSaid : Prop := Claim7.holds Tryd.pinned (.plain (OpenSpec.upto cellsParsesSpec)) cellsParsesUptoCard

/-- THE SECOND FORM's CARD OF 'graverlaw25.CellsColumns'. -/
def cellsColumnsUptoCard : Claim7 := { stood := { row := cellsColumnsUptoRow, standIns := [], harness := (true, "82102bc140c37232aed2a92e001acabb915236d9b5ab37585c242d8c1a869bfb"), looks := false }, kinds := [], alts := [], laidByText := true, laidKinds := [.data, .data, .data, .data, .pinned], laidTests := true, laidLooks := .later }
def CellsColumnsUptoCardSaid : Prop := Claim7.holds Tryd.pinned (.plain (OpenSpec.upto cellsColumnsSpec)) cellsColumnsUptoCard
end Rows
end Go.Proofs.YtipnoeffahnfaaaDoor
