/-
  DERIVED. GIVEN WITH THE SEED: THE CARDS: each row of YtcfbdnlbgcoicaaDoorRows.lean that lists a variable, with what it lists TIED to the program's text (the seventh form; the later family's looks); each row that meets fmt, with fmt's text TOLD by the authors' own Lean function (tested against real Go, not proved from fmt's source: count such statements apart). THE CARD IS WHAT COUNTS. Prove the row's statement (the work); the ties are given (YtcfbdnlbgcoicaaDoorTie.lean); close each card by the builder's one call (the guide's Derived/Test/ToyasCard.lean, 'card_holds'). Laid BY PROGRAM, IN A SANDBOX (cutbox-door.mjs). By AI agents, Wed Nov 11 2026. No macro, syntax, notation, axiom, sorry.
-/
import Derived.Test.YtcfbdnlbgcoicaaDoorRows
import GoSem.ClaimSeven
namespace Go.Proofs.YtcfbdnlbgcoicaaDoor
namespace Rows

/-- THE TIED CARD OF 'graverlaw10.DynrecNotes'. -/
def dynrecNotesCard : Claim7 := { stood := { row := dynrecNotesRow, standIns := [], harness := (true, "3523b33c7967560b67ce13db4f2dcf6993a10b9cb7694f8f61272a45af20b65d"), looks := false }, kinds := [], alts := [], laidByText := true, laidKinds := [.data, .pinned], laidTests := true, laidLooks := .later }
def DynrecNotesCardSaid : Prop := Claim7.holds Tryd.pinned (.plain (OpenSpec.ofChange dynrecNotesSpec)) dynrecNotesCard

/-- THE TIED CARD OF 'graverlaw10.DynrecPads'. -/
def dynrecPadsCard : Claim7 := { stood := { row := dynrecPadsRow, standIns := [], harness := (true, "3523b33c7967560b67ce13db4f2dcf6993a10b9cb7694f8f61272a45af20b65d"), looks := false }, kinds := [], alts := [], laidByText := true, laidKinds := [.data, .pinned], laidTests := true, laidLooks := .later }
def DynrecPadsCardSaid : Prop := Claim7.holds Tryd.pinned (.plain (OpenSpec.ofChange dynrecPadsSpec)) dynrecPadsCard

/-- THE TIED CARD OF 'graverlaw10.DynrecEntries'. -/
def dynrecEntriesCard : Claim7 := { stood := { row := dynrecEntriesRow, standIns := [], harness := (true, "3523b33c7967560b67ce13db4f2dcf6993a10b9cb7694f8f61272a45af20b65d"), looks := false }, kinds := [], alts := [], laidByText := true, laidKinds := [.data, .pinned], laidTests := true, laidLooks := .later }
def DynrecEntriesCardSaid : Prop := Claim7.holds Tryd.pinned (.plain (OpenSpec.ofChange dynrecEntriesSpec)) dynrecEntriesCard

/-- THE TIED CARD OF 'graverlaw10.DynrecTags'. -/
def dynrecTagsCard : Claim7 := { stood := { row := dynrecTagsRow, standIns := [], harness := (true, "3523b33c7967560b67ce13db4f2dcf6993a10b9cb7694f8f61272a45af20b65d"), looks := false }, kinds := [], alts := [], laidByText := true, laidKinds := [.data, .data, .data, .data, .data, .pinned], laidTests := true, laidLooks := .later }
def DynrecTagsCardSaid : Prop := Claim7.holds Tryd.pinned (.plain (OpenSpec.ofChange dynrecTagsSpec)) dynrecTagsCard

/-- THE SECOND FORM's CARD OF 'graverlaw10.DynrecNotes'. -/
def dynrecNotesUptoCard : Claim7 := { stood := { row := dynrecNotesUptoRow, standIns := [], harness := (true, "3523b33c7967560b67ce13db4f2dcf6993a10b9cb7694f8f61272a45af20b65d"), looks := false }, kinds := [], alts := [], laidByText := true, laidKinds := [.data, .pinned], laidTests := true, laidLooks := .later }
def DynrecNotesUptoCardSaid : Prop := Claim7.holds Tryd.pinned (.plain (OpenSpec.upto dynrecNotesSpec)) dynrecNotesUptoCard

/-- THE SECOND FORM's CARD OF 'graverlaw10.DynrecPads'. -/
def dynrecPadsUptoCard : Claim7 := { stood := { row := dynrecPadsUptoRow, standIns := [], harness := (true, "3523b33c7967560b67ce13db4f2dcf6993a10b9cb7694f8f61272a45af20b65d"), looks := false }, kinds := [], alts := [], laidByText := true, laidKinds := [.data, .pinned], laidTests := true, laidLooks := .later }
def DynrecPadsUptoCardSaid : Prop := Claim7.holds Tryd.pinned (.plain (OpenSpec.upto dynrecPadsSpec)) dynrecPadsUptoCard

/-- THE SECOND FORM's CARD OF 'graverlaw10.DynrecEntries'. -/
def dynrecEntriesUptoCard : Claim7 := { stood := { row := dynrecEntriesUptoRow, standIns := [], harness := (true, "3523b33c7967560b67ce13db4f2dcf6993a10b9cb7694f8f61272a45af20b65d"), looks := false }, kinds := [], alts := [], laidByText := true, laidKinds := [.data, .pinned], laidTests := true, laidLooks := .later }
def DynrecEntriesUptoCardSaid : Prop := Claim7.holds Tryd.pinned (.plain (OpenSpec.upto dynrecEntriesSpec)) dynrecEntriesUptoCard

/-- THE SECOND FORM's CARD OF 'graverlaw10.DynrecTags'. -/
def dynrecTagsUptoCard : Claim7 := { stood := { row := dynrecTagsUptoRow, standIns := [], harness := (true, "3523b33c7967560b67ce13db4f2dcf6993a10b9cb7694f8f61272a45af20b65d"), looks := false }, kinds := [], alts := [], laidByText := true, laidKinds := [.data, .data, .data, .data, .data, .pinned], laidTests := true, laidLooks := .later }
def DynrecTagsUptoCardSaid : Prop := Claim7.holds Tryd.pinned (.plain (OpenSpec.upto dynrecTagsSpec)) dynrecTagsUptoCard
end Rows
end Go.Proofs.YtcfbdnlbgcoicaaDoor
