/-
  DERIVED. GIVEN WITH THE SEED: THE CARDS: each row of YthphhogljniofaaDoorRows.lean that lists a variable, with what it lists TIED to the program's text (the seventh form; the later family's looks); each row that meets fmt, with fmt's text TOLD by the authors' own Lean function (tested against real Go, not proved from fmt's source: count such statements apart). THE CARD IS WHAT COUNTS. Prove the row's statement (the work); the ties are given (YthphhogljniofaaDoorTie.lean); close each card by the builder's one call (the guide's Derived/Test/ToyasCard.lean, 'card_holds'). Laid BY PROGRAM, IN A SANDBOX (cutbox-door.mjs). By AI agents, Wed Nov 11 2026. No macro, syntax, notation, axiom, sorry.
-/
import Derived.Test.YthphhogljniofaaDoorRows
import GoSem.ClaimSeven
namespace Go.Proofs.YthphhogljniofaaDoor
namespace Rows

/-- THE TIED CARD OF 'graverlaw17.SameTwo'. -/
def sameTwoCard : Claim7 := { stood := { row := sameTwoRow, standIns := [], harness := (true, "257ebf833e3a20fc46d81e4fa87e0b0b29cbd8d241cd491b83993da43e0e46c9"), looks := false }, kinds := [], alts := [], laidByText := true, laidKinds := [.data, .data, .data], laidTests := true, laidLooks := .later }
def SameTwoCardSaid : Prop := Claim7.holds Tryd.pinned (.plain (OpenSpec.ofChange sameTwoSpec)) sameTwoCard

/-- THE TIED CARD OF 'graverlaw17.SameSteps'. -/
def sameStepsCard : Claim7 := { stood := { row := sameStepsRow, standIns := [], harness := (true, "257ebf833e3a20fc46d81e4fa87e0b0b29cbd8d241cd491b83993da43e0e46c9"), looks := false }, kinds := [], alts := [], laidByText := true, laidKinds := [.data, .data, .data], laidTests := true, laidLooks := .later }
def SameStepsCardSaid : Prop := Claim7.holds Tryd.pinned (.plain (OpenSpec.ofChange sameStepsSpec)) sameStepsCard

/-- THE TIED CARD OF 'graverlaw17.SameDiffs'. -/
def sameDiffsCard : Claim7 := { stood := { row := sameDiffsRow, standIns := [], harness := (true, "257ebf833e3a20fc46d81e4fa87e0b0b29cbd8d241cd491b83993da43e0e46c9"), looks := false }, kinds := [], alts := [], laidByText := true, laidKinds := [.data, .data, .data], laidTests := true, laidLooks := .later }
def SameDiffsCardSaid : Prop := Claim7.holds Tryd.pinned (.plain (OpenSpec.ofChange sameDiffsSpec)) sameDiffsCard

/-- THE TIED CARD OF 'graverlaw17.SameShares'. -/
def sameSharesCard : Claim7 := { stood := { row := sameSharesRow, standIns := [], harness := (true, "257ebf833e3a20fc46d81e4fa87e0b0b29cbd8d241cd491b83993da43e0e46c9"), looks := false }, kinds := [], alts := [], laidByText := true, laidKinds := [.data, .data, .data], laidTests := true, laidLooks := .later }
def SameSharesCardSaid : Prop := Claim7.holds Tryd.pinned (.plain (OpenSpec.ofChange sameSharesSpec)) sameSharesCard

/-- THE SECOND FORM's CARD OF 'graverlaw17.SameTwo'. -/
def sameTwoUptoCard : Claim7 := { stood := { row := sameTwoUptoRow, standIns := [], harness := (true, "257ebf833e3a20fc46d81e4fa87e0b0b29cbd8d241cd491b83993da43e0e46c9"), looks := false }, kinds := [], alts := [], laidByText := true, laidKinds := [.data, .data, .data], laidTests := true, laidLooks := .later }
def SameTwoUptoCardSaid : Prop := Claim7.holds Tryd.pinned (.plain (OpenSpec.upto sameTwoSpec)) sameTwoUptoCard

/-- THE SECOND FORM's CARD OF 'graverlaw17.SameSteps'. -/
def sameStepsUptoCard : Claim7 := { stood := { row := sameStepsUptoRow, standIns := [], harness := (true, "257ebf833e3a20fc46d81e4fa87e0b0b29cbd8d241cd491b83993da43e0e46c9"), looks := false }, kinds := [], alts := [], laidByText := true, laidKinds := [.data, .data, .data], laidTests := true, laidLooks := .later }
def SameStepsUptoCardSaid : Prop := Claim7.holds Tryd.pinned (.plain (OpenSpec.upto sameStepsSpec)) sameStepsUptoCard

/-- THE SECOND FORM's CARD OF 'graverlaw17.SameDiffs'. -/
def sameDiffsUptoCard : Claim7 := { stood := { row := sameDiffsUptoRow, standIns := [], harness := (true, "257ebf833e3a20fc46d81e4fa87e0b0b29cbd8d241cd491b83993da43e0e46c9"), looks := false }, kinds := [], alts := [], laidByText := true, laidKinds := [.data, .data, .data], laidTests := true, laidLooks := .later }
def SameDiffsUptoCardSaid : Prop := Claim7.holds Tryd.pinned (.plain (OpenSpec.upto sameDiffsSpec)) sameDiffsUptoCard

/-- THE SECOND FORM's CARD OF 'graverlaw17.SameShares'. -/
def sameSharesUptoCard : Claim7 := { stood := { row := sameSharesUptoRow, standIns := [], harness := (true, "257ebf833e3a20fc46d81e4fa87e0b0b29cbd8d241cd491b83993da43e0e46c9"), looks := false }, kinds := [], alts := [], laidByText := true, laidKinds := [.data, .data, .data], laidTests := true, laidLooks := .later }
def SameSharesUptoCardSaid : Prop := Claim7.holds Tryd.pinned (.plain (OpenSpec.upto sameSharesSpec)) sameSharesUptoCard
end Rows
end Go.Proofs.YthphhogljniofaaDoor
