/-
  DERIVED. GIVEN WITH THE SEED: THE CARDS: each row of YtnjaijmodkfnjaaDoorRows.lean that lists a variable, with what it lists TIED to the program's text (the seventh form; the later family's looks); each row that meets fmt, with fmt's text TOLD by the authors' own Lean function (tested against real Go, not proved from fmt's source: count such statements apart). THE CARD IS WHAT COUNTS. Prove the row's statement (the work); the ties are given (YtnjaijmodkfnjaaDoorTie.lean); close each card by the builder's one call (the guide's Derived/Test/ToyasCard.lean, 'card_holds'). Laid BY PROGRAM, IN A SANDBOX (cutbox-door.mjs). By AI agents, Wed Nov 11 2026. No macro, syntax, notation, axiom, sorry.
-/
import Derived.Test.YtnjaijmodkfnjaaDoorRows
import GoSem.ClaimSeven
namespace Go.Proofs.YtnjaijmodkfnjaaDoor
namespace Rows

/-- THE TIED CARD OF 'graverlaw21.ArnumPuts'. -/
def arnumPutsCard : Claim7 := { stood := { row := arnumPutsRow, standIns := [], harness := (true, "843354dc0131f24b26bebdec3a027edc5db70fa2e07983232bb70c4d4491c6b0"), looks := false }, kinds := [], alts := [], laidByText := true, laidKinds := [.data, .data, .data, .data, .pinned], laidTests := true, laidLooks := .later }
def ArnumPutsCardSaid : Prop := Claim7.holds Tryd.pinned (.plain (OpenSpec.ofChange arnumPutsSpec)) arnumPutsCard

/-- THE TIED CARD OF 'graverlaw21.ArnumGets'. -/
def arnumGetsCard : Claim7 := { stood := { row := arnumGetsRow, standIns := [], harness := (true, "843354dc0131f24b26bebdec3a027edc5db70fa2e07983232bb70c4d4491c6b0"), looks := false }, kinds := [], alts := [], laidByText := true, laidKinds := [.data, .data, .data, .data, .pinned], laidTests := true, laidLooks := .later }
def ArnumGetsCardSaid : Prop := Claim7.holds Tryd.pinned (.plain (OpenSpec.ofChange arnumGetsSpec)) arnumGetsCard

/-- THE TIED CARD OF 'graverlaw21.ArnumPads'. -/
def arnumPadsCard : Claim7 := { stood := { row := arnumPadsRow, standIns := [], harness := (true, "843354dc0131f24b26bebdec3a027edc5db70fa2e07983232bb70c4d4491c6b0"), looks := false }, kinds := [], alts := [], laidByText := true, laidKinds := [.data, .data, .data, .data, .pinned], laidTests := true, laidLooks := .later }
def ArnumPadsCardSaid : Prop := Claim7.holds Tryd.pinned (.plain (OpenSpec.ofChange arnumPadsSpec)) arnumPadsCard

/-- THE TIED CARD OF 'graverlaw21.ArnumWidths'. -/
def arnumWidthsCard : Claim7 := { stood := { row := arnumWidthsRow, standIns := [], harness := (true, "843354dc0131f24b26bebdec3a027edc5db70fa2e07983232bb70c4d4491c6b0"), looks := false }, kinds := [], alts := [], laidByText := true, laidKinds := [.data, .data, .data, .data, .pinned], laidTests := true, laidLooks := .later }
def ArnumWidthsCardSaid : Prop := Claim7.holds Tryd.pinned (.plain (OpenSpec.ofChange arnumWidthsSpec)) arnumWidthsCard

/-- THE SECOND FORM's CARD OF 'graverlaw21.ArnumPuts'. -/
def arnumPutsUptoCard : Claim7 := { stood := { row := arnumPutsUptoRow, standIns := [], harness := (true, "843354dc0131f24b26bebdec3a027edc5db70fa2e07983232bb70c4d4491c6b0"), looks := false }, kinds := [], alts := [], laidByText := true, laidKinds := [.data, .data, .data, .data, .pinned], laidTests := true, laidLooks := .later }
def ArnumPutsUptoCardSaid : Prop := Claim7.holds Tryd.pinned (.plain (OpenSpec.upto arnumPutsSpec)) arnumPutsUptoCard

/-- THE SECOND FORM's CARD OF 'graverlaw21.ArnumGets'. -/
def arnumGetsUptoCard : Claim7 := { stood := { row := arnumGetsUptoRow, standIns := [], harness := (true, "843354dc0131f24b26bebdec3a027edc5db70fa2e07983232bb70c4d4491c6b0"), looks := false }, kinds := [], alts := [], laidByText := true, laidKinds := [.data, .data, .data, .data, .pinned], laidTests := true, laidLooks := .later }
def ArnumGetsUptoCardSaid : Prop := Claim7.holds Tryd.pinned (.plain (OpenSpec.upto arnumGetsSpec)) arnumGetsUptoCard

/-- THE SECOND FORM's CARD OF 'graverlaw21.ArnumPads'. -/
def arnumPadsUptoCard : Claim7 := { stood := { row := arnumPadsUptoRow, standIns := [], harness := (true, "843354dc0131f24b26bebdec3a027edc5db70fa2e07983232bb70c4d4491c6b0"), looks := false }, kinds := [], alts := [], laidByText := true, laidKinds := [.data, .data, .data, .data, .pinned], laidTests := true, laidLooks := .later }
def ArnumPadsUptoCardSaid : Prop := Claim7.holds Tryd.pinned (.plain (OpenSpec.upto arnumPadsSpec)) arnumPadsUptoCard

/-- THE SECOND FORM's CARD OF 'graverlaw21.ArnumWidths'. -/
def arnumWidthsUptoCard : Claim7 := { stood := { row := arnumWidthsUptoRow, standIns := [], harness := (true, "843354dc0131f24b26bebdec3a027edc5db70fa2e07983232bb70c4d4491c6b0"), looks := false }, kinds := [], alts := [], laidByText := true, laidKinds := [.data, .data, .data, .data, .pinned], laidTests := true, laidLooks := .later }
def ArnumWidthsUptoCardSaid : Prop := Claim7.holds Tryd.pinned (.plain (OpenSpec.upto arnumWidthsSpec)) arnumWidthsUptoCard
end Rows
end Go.Proofs.YtnjaijmodkfnjaaDoor
