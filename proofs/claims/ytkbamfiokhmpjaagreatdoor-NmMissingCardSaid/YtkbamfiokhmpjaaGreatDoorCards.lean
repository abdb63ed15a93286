/-
  DERIVED. GIVEN WITH THE SEED: THE CARDS: each row of YtkbamfiokhmpjaaGreatDoorRows.lean that lists a variable, with what it lists TIED to the program's text (the seventh form; the later family's looks); each row that meets fmt, with fmt's text TOLD by the authors' own Lean function (tested against real Go, not proved from fmt's source: count such statements apart). THE CARD IS WHAT COUNTS. Prove the row's statement (the work); the ties are given (YtkbamfiokhmpjaaGreatDoorTie.lean); close each card by the builder's one call (the guide's Derived/Test/ToyasCard.lean, 'card_holds'). Laid BY PROGRAM, IN A SANDBOX (cutbox-door.mjs). By AI agents, Wed Nov 11 2026. No macro, syntax, notation, axiom, sorry.
-/
import Derived.Test.YtkbamfiokhmpjaaGreatDoorRows
import GoSem.ClaimSeven
namespace Go.Proofs.YtkbamfiokhmpjaaGreatDoor
namespace Rows

/-- THE TIED CARD OF 'graverlaw27.NmMissing'. -/
def nmMissingCard : Claim7 := { stood := { row := nmMissingRow, standIns := [], harness := (true, "e264fde3a92946b1445057319d4596347d161295efcb0187da12e094fd9d58d6"), looks := false }, kinds := [], alts := [], laidByText := true, laidKinds := [.data, .data, .data, .data, .pinned, .pinned], laidTests := true, laidLooks := .later }
def NmMissingCardSaid : Prop := Claim7.holds Tryz.pinned (.plain (OpenSpec.ofChange nmMissingSpec)) nmMissingCard

/-- THE SECOND FORM's CARD OF 'graverlaw27.NmMissing'. -/
def nmMissingUptoCard : Claim7 := { stood := { row := nmMissingUptoRow, standIns := [], harness := (true, "e264fde3a92946b1445057319d4596347d161295efcb0187da12e094fd9d58d6"), looks := false }, kinds := [], alts := [], laidByText := true, laidKinds := [.data, .data, .data, .data, .pinned, .pinned], laidTests := true, laidLooks := .later }
def NmMissingUptoCardSaid : Prop := Claim7.holds Tryz.pinned (.plain (OpenSpec.upto nmMissingSpec)) nmMissingUptoCard
end Rows
end Go.Proofs.YtkbamfiokhmpjaaGreatDoor
