/-
  DERIVED. GIVEN WITH THE SEED: THE CARDS: each row of YtkbamfiokhmpjaaDoorRows.lean that lists a variable, with what it lists TIED to the program's text (the seventh form; the later family's looks); each row that meets fmt, with fmt's text TOLD by the authors' own Lean function (tested against real Go, not proved from fmt's source: count such statements apart). THE CARD IS WHAT COUNTS. Prove the row's statement (the work); the ties are given (YtkbamfiokhmpjaaDoorTie.lean); close each card by the builder's one call (the guide's Derived/Test/ToyasCard.lean, 'card_holds'). Laid BY PROGRAM, IN A SANDBOX (cutbox-door.mjs). By AI agents, Wed Nov 11 2026. No macro, syntax, notation, axiom, sorry.
-/
import Derived.Test.YtkbamfiokhmpjaaDoorRows
import GoSem.ClaimSeven
namespace Go.Proofs.YtkbamfiokhmpjaaDoor
namespace Rows

/-- THE TIED CARD OF 'graverlaw27.NmLetters'. -/
def nmLettersCard : Claim7 := { stood := { row := nmLettersRow, standIns := [], harness := (true, "3bdb30a8c7b13dd8c26b0d5a6e0c6a3c462c4641b3578d9faa15b5fddcb3ea5d"), looks := false }, kinds := [], alts := [], laidByText := true, laidKinds := [.data, .data, .data, .data, .pinned, .pinned], laidTests := true, laidLooks := .later }
def NmLettersCardSaid : Prop := Claim7.holds Tryd.pinned (.plain (OpenSpec.ofChange nmLettersSpec)) nmLettersCard

/-- THE TIED CARD OF 'graverlaw27.NmRows'. -/
def nmRowsCard : Claim7 := { stood := { row := nmRowsRow, standIns := [], harness := (true, "3bdb30a8c7b13dd8c26b0d5a6e0c6a3c462c4641b3578d9faa15b5fddcb3ea5d"), looks := false }, kinds := [], alts := [], laidByText := true, laidKinds := [.data, .data, .data, .data, .pinned, .pinned], laidTests := true, laidLooks := .later }
def NmRowsCardSaid : Prop := Claim7.holds Tryd.pinned (.plain (OpenSpec.ofChange nmRowsSpec)) nmRowsCard

/-- THE TIED CARD OF 'graverlaw27.NmViews'. -/
def nmViewsCard : Claim7 := { stood := { row := nmViewsRow, standIns := [], harness := (true, "3bdb30a8c7b13dd8c26b0d5a6e0c6a3c462c4641b3578d9faa15b5fddcb3ea5d"), looks := false }, kinds := [], alts := [], laidByText := true, laidKinds := [.data, .data, .data, .data, .pinned, .pinned], laidTests := true, laidLooks := .later }
def NmViewsCardSaid : Prop := Claim7.holds Tryd.pinned (.plain (OpenSpec.ofChange nmViewsSpec)) nmViewsCard

/-- THE SECOND FORM's CARD OF 'graverlaw27.NmLetters'. -/
def nmLettersUptoCard : Claim7 := { stood := { row := nmLettersUptoRow, standIns := [], harness := (true, "3bdb30a8c7b13dd8c26b0d5a6e0c6a3c462c4641b3578d9faa15b5fddcb3ea5d"), looks := false }, kinds := [], alts := [], laidByText := true, laidKinds := [.data, .data, .data, .data, .pinned, .pinned], laidTests := true, laidLooks := .later }
def NmLettersUptoCardSaid : Prop := Claim7.holds Tryd.pinned (.plain (OpenSpec.upto nmLettersSpec)) nmLettersUptoCard

/-- THE SECOND FORM's CARD OF 'graverlaw27.NmRows'. -/
def nmRowsUptoCard : Claim7 := { stood := { row := nmRowsUptoRow, standIns := [], harness := (true, "3bdb30a8c7b13dd8c26b0d5a6e0c6a3c462c4641b3578d9faa15b5fddcb3ea5d"), looks := false }, kinds := [], alts := [], laidByText := true, laidKinds := [.data, .data, .data, .data, .pinned, .pinned], laidTests := true, laidLooks := .later }
def NmRowsUptoCardSaid : Prop := Claim7.holds Tryd.pinned (.plain (OpenSpec.upto nmRowsSpec)) nmRowsUptoCard

/-- THE SECOND FORM's CARD OF 'graverlaw27.NmViews'. -/
def nmViewsUptoCard : Claim7 := { stood := { row := nmViewsUptoRow, standIns := [], harness := (true, "3bdb30a8c7b13dd8c26b0d5a6e0c6a3c462c4641b3578d9faa15b5fddcb3ea5d"), looks := false }, kinds := [], alts := [], laidByText := true, laidKinds := [.data, .data, .data, .data, .pinned, .pinned], laidTests := true, laidLooks := .later }
def NmViewsUptoCardSaid : Prop := Claim7.holds Tryd.pinned (.plain (OpenSpec.upto nmViewsSpec)) nmViewsUptoCard
end Rows
end Go.Proofs.YtkbamfiokhmpjaaDoor
