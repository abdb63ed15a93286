/-
  DERIVED. GIVEN WITH THE SEED: THE CARDS: each row of YtolgilamchadfaaDoorRows.lean that lists a variable, with what it lists TIED to the program's text (the seventh form; the later family's looks); each row that meets fmt, with fmt's text TOLD by the authors' own Lean function (tested against real Go, not proved from fmt's source: count such statements apart). THE CARD IS WHAT COUNTS. Prove the row's statement (the work); the ties are given (YtolgilamchadfaaDoorTie.lean); close each card by the builder's one call (the guide's Derived/Test/ToyasCard.lean, 'card_holds'). Laid BY PROGRAM, IN A SANDBOX (cutbox-door.mjs). By AI agents, Wed Nov 11 2026. No macro, syntax, notation, axiom, sorry.
-/
import Derived.Test.YtolgilamchadfaaDoorRows
import GoSem.ClaimSeven
namespace Go.Proofs.YtolgilamchadfaaDoor
namespace Rows

/-- THE TIED CARD OF 'graverlaw03.StrtabAgain'. -/
def strtabAgainCard : Claim7 := { stood := { row := strtabAgainRow, standIns := [], harness := (true, "def16a6cbdd90451379028fefe92859b1d447829b8322f8994e6733eb8b8ff17"), looks := false }, kinds := [], alts := [], laidByText := true, laidKinds := [.data, .pinned], laidTests := true, laidLooks := .later }
def StrtabAgainCardSaid : Prop := Claim7.holds Tryd.pinned (.plain (OpenSpec.ofChange strtabAgainSpec)) strtabAgainCard

/-- THE TIED CARD OF 'graverlaw03.StrtabTexts'. -/
def strtabTextsCard : Claim7 := { stood := { row := strtabTextsRow, standIns := [], harness := (true, "def16a6cbdd90451379028fefe92859b1d447829b8322f8994e6733eb8b8ff17"), looks := false }, kinds := [], alts := [], laidByText := true, laidKinds := [.data, .pinned], laidTests := true, laidLooks := .later }
def StrtabTextsCardSaid : Prop := Claim7.holds Tryd.pinned (.plain (OpenSpec.ofChange strtabTextsSpec)) strtabTextsCard

/-- THE SECOND FORM's CARD OF 'graverlaw03.StrtabAgain'. -/
def strtabAgainUptoCard : Claim7 := { stood := { row := strtabAgainUptoRow, standIns := [], harness := (true, "def16a6cbdd90451379028fefe92859b1d447829b8322f8994e6733eb8b8ff17"), looks := false }, kinds := [], alts := [], laidByText := true, laidKinds := [.data, .pinned], laidTests := true, laidLooks := .later }
def StrtabAgainUptoCardSaid : Prop := Claim7.holds Tryd.pinned (.plain (OpenSpec.upto strtabAgainSpec)) strtabAgainUptoCard

/-- THE SECOND FORM's CARD OF 'graverlaw03.StrtabTexts'. -/
def strtabTextsUptoCard : Claim7 := { stood := { row := strtabTextsUptoRow, standIns := [], harness := (true, "def16a6cbdd90451379028fefe92859b1d447829b8322f8994e6733eb8b8ff17"), looks := false }, kinds := [], alts := [], laidByText := true, laidKinds := [.data, .pinned], laidTests := true, laidLooks := .later }
def StrtabTextsUptoCardSaid : Prop := Claim7.holds Tryd.pinned (.plain (OpenSpec.upto strtabTextsSpec)) strtabTextsUptoCard
end Rows
end Go.Proofs.YtolgilamchadfaaDoor
