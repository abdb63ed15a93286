/-
  No cell of these rows narrows 'for every input' (looked for: loops, veiled, ifaces, maps, wideKeys, modest, calm, conditions, laid).
  DERIVED. THE GIVEN ROWS OF THIS SEAT. 5 by the template 'for every input the law returns true; each argument reads behind the call as it read before'; 0 by the template 'total and deterministic' (their statements: YtienjagoplcimaaTotals.lean).
  GIVEN WITH THE SEED: the statements are not yours to turn. If you find one false, say at which input.
  Laid BY PROGRAM, IN A SANDBOX (cutbox-rows.mjs): the forced cells as the released guide's own fill.sh prints them over the translation a5ac3296ef76179b… (all of the seat's roots in one cut). By AI agents, Wed Nov 11 2026. No macro, syntax, notation, axiom, sorry.
-/
import Derived.Test.YtienjagoplcimaaChecked
import GoSem.Claim
import GoSem.ClaimJoined
import GoSem.ClaimMapViews
import Derived.JoinedTies
import Derived.KernelRfl
namespace Go.Proofs.Ytienjagoplcimaa
/- THE CELL 'sum', in the pinned program and in every row, IS THE sha256 OF THE DUMP (.gsa) THAT YtienjagoplcimaaProg.lean LOADS. Nothing in Lean hashes anything: it is a label: what it is worth is what the hold of that sum in a sandbox is worth. -/
noncomputable def Try.pinned : Pinned := { name := "ytienjagoplcimaa", sum := "a5ac3296ef76179bba37d025715c2153a48966e5d6e387c105b908468aaf5bde", checked := Try.checked }
namespace Rows
def none {H : Type} : Left H := { results := [], args := [] }

/-- 'graverlaw23.ArlistSplits': WHATEVER THE INPUT: true; the input reads as it did. -/
def arlistSplitsSpec : ChangeSpec := { name := "arlistSplits", fn := fun _ => fun
  | [d1, d2, d3] => { results := [.lit (.bool true)], args := [d1, d2, d3] }
  | _ => none }
def arlistSplitsRow : OpenClaim := { program := "ytienjagoplcimaa", sum := "a5ac3296ef76179bba37d025715c2153a48966e5d6e387c105b908468aaf5bde", func := "graver/graverlaw23.ArlistSplits", spec := "arlistSplits", inPlace := ["slices.overlaps[graver/ar.Member]", "internal/bytealg.IndexByteString", "internal/bytealg.IndexString"], unfollowed := true, recurses := true, named := ["internal/bytealg.MaxLen"], apart := false }
def ArlistSplitsSaid : Prop := arlistSplitsRow.holds Try.pinned (OpenSpec.ofChange arlistSplitsSpec)

/-- ITS FALSE NEIGHBOUR: 'it returns false'. Refute it at one input. -/
def arlistSplitsWrong : ChangeSpec := { name := "arlistSplits", fn := fun _ => fun
  | [d1, d2, d3] => { results := [.lit (.bool false)], args := [d1, d2, d3] }
  | _ => none }
def ArlistSplitsWrongFalsely : Prop := arlistSplitsRow.holds Try.pinned (OpenSpec.ofChange arlistSplitsWrong)

/-- 'graverlaw23.ArlistUndoes': WHATEVER THE INPUT: true; the input reads as it did. -/
def arlistUndoesSpec : ChangeSpec := { name := "arlistUndoes", fn := fun _ => fun
  | [d1, d2, d3] => { results := [.lit (.bool true)], args := [d1, d2, d3] }
  | _ => none }
def arlistUndoesRow : OpenClaim := { program := "ytienjagoplcimaa", sum := "a5ac3296ef76179bba37d025715c2153a48966e5d6e387c105b908468aaf5bde", func := "graver/graverlaw23.ArlistUndoes", spec := "arlistUndoes", inPlace := ["slices.overlaps[graver/ar.Member]", "internal/bytealg.IndexByteString", "internal/bytealg.IndexString"], unfollowed := true, recurses := true, named := ["internal/bytealg.MaxLen"], apart := false }
def ArlistUndoesSaid : Prop := arlistUndoesRow.holds Try.pinned (OpenSpec.ofChange arlistUndoesSpec)

/-- ITS FALSE NEIGHBOUR: 'it returns false'. Refute it at one input. -/
def arlistUndoesWrong : ChangeSpec := { name := "arlistUndoes", fn := fun _ => fun
  | [d1, d2, d3] => { results := [.lit (.bool false)], args := [d1, d2, d3] }
  | _ => none }
def ArlistUndoesWrongFalsely : Prop := arlistUndoesRow.holds Try.pinned (OpenSpec.ofChange arlistUndoesWrong)

/-- 'graverlaw23.ArlistMany': WHATEVER THE INPUT: true; the input reads as it did. -/
def arlistManySpec : ChangeSpec := { name := "arlistMany", fn := fun _ => fun
  | [d] => { results := [.lit (.bool true)], args := [d] }
  | _ => none }
def arlistManyRow : OpenClaim := { program := "ytienjagoplcimaa", sum := "a5ac3296ef76179bba37d025715c2153a48966e5d6e387c105b908468aaf5bde", func := "graver/graverlaw23.ArlistMany", spec := "arlistMany", inPlace := ["slices.overlaps[graver/ar.Member]", "internal/bytealg.IndexByteString", "internal/bytealg.IndexString"], unfollowed := true, recurses := true, named := ["internal/bytealg.MaxLen"], apart := false }
def ArlistManySaid : Prop := arlistManyRow.holds Try.pinned (OpenSpec.ofChange arlistManySpec)

/-- ITS FALSE NEIGHBOUR: 'it returns false'. Refute it at one input. -/
def arlistManyWrong : ChangeSpec := { name := "arlistMany", fn := fun _ => fun
  | [d] => { results := [.lit (.bool false)], args := [d] }
  | _ => none }
def ArlistManyWrongFalsely : Prop := arlistManyRow.holds Try.pinned (OpenSpec.ofChange arlistManyWrong)

/-- 'graverlaw23.ArlistPlays': WHATEVER THE INPUT: true; the input reads as it did. -/
def arlistPlaysSpec : ChangeSpec := { name := "arlistPlays", fn := fun _ => fun
  | [d] => { results := [.lit (.bool true)], args := [d] }
  | _ => none }
def arlistPlaysRow : OpenClaim := { program := "ytienjagoplcimaa", sum := "a5ac3296ef76179bba37d025715c2153a48966e5d6e387c105b908468aaf5bde", func := "graver/graverlaw23.ArlistPlays", spec := "arlistPlays", inPlace := ["slices.overlaps[graver/ar.Member]", "internal/bytealg.IndexByteString", "internal/bytealg.IndexString"], unfollowed := true, recurses := true, named := ["internal/bytealg.MaxLen"], apart := false }
def ArlistPlaysSaid : Prop := arlistPlaysRow.holds Try.pinned (OpenSpec.ofChange arlistPlaysSpec)

/-- ITS FALSE NEIGHBOUR: 'it returns false'. Refute it at one input. -/
def arlistPlaysWrong : ChangeSpec := { name := "arlistPlays", fn := fun _ => fun
  | [d] => { results := [.lit (.bool false)], args := [d] }
  | _ => none }
def ArlistPlaysWrongFalsely : Prop := arlistPlaysRow.holds Try.pinned (OpenSpec.ofChange arlistPlaysWrong)

/-- 'graverlaw23.ArlistSorts': WHATEVER THE INPUT: true; the input reads as it did. -/
def arlistSortsSpec : ChangeSpec := { name := "arlistSorts", fn := fun _ => fun
  | [d] => { results := [.lit (.bool true)], args := [d] }
  | _ => none }
def arlistSortsRow : OpenClaim := { program := "ytienjagoplcimaa", sum := "a5ac3296ef76179bba37d025715c2153a48966e5d6e387c105b908468aaf5bde", func := "graver/graverlaw23.ArlistSorts", spec := "arlistSorts", inPlace := ["slices.overlaps[graver/ar.Member]"], unfollowed := true, recurses := true, apart := false }
def ArlistSortsSaid : Prop := arlistSortsRow.holds Try.pinned (OpenSpec.ofChange arlistSortsSpec)

/-- ITS FALSE NEIGHBOUR: 'it returns false'. Refute it at one input. -/
def arlistSortsWrong : ChangeSpec := { name := "arlistSorts", fn := fun _ => fun
  | [d] => { results := [.lit (.bool false)], args := [d] }
  | _ => none }
def ArlistSortsWrongFalsely : Prop := arlistSortsRow.holds Try.pinned (OpenSpec.ofChange arlistSortsWrong)

/- THE SECOND FORM. 'bulk': how many values and letters a reading holds, each counted each time it is reached (what is shared counts as often as it is met; a slice's spare places count too). A statement '..UptoSaid' is the law's where the arguments, and the package variables that the reading takes, are together of bulk at most 1048576: NARROWER than '..Said'. Prove '..Said' where nothing that the law and all that it calls make is longer than what came in: it says more and counts as full. Else prove '..UptoSaid'. A law counts once. -/
mutual
def uptoBulk {H : Type} : DataW H → Nat
  | .lit (.string bytes) => bytes.length + 1
  | .lit _ => 1
  | .nil => 1
  | .ptr d => uptoBulk d + 1
  | .slice elems spare => uptoBulkAll elems + uptoBulkAll spare + 1
  | .agg parts => uptoBulkAll parts + 1
  | .iface _ d => uptoBulk d + 1
  | .map entries => uptoBulkEntries entries + 1
  | .held _ => 1
def uptoBulkAll {H : Type} : List (DataW H) → Nat
  | [] => 0
  | d :: r => uptoBulk d + uptoBulkAll r
def uptoBulkEntries {H : Type} : List (Lit × DataW H) → Nat
  | [] => 0
  | x :: r => uptoBulkEntry x + uptoBulkEntries r
def uptoBulkEntry {H : Type} : Lit × DataW H → Nat
  | (.string bytes, d) => bytes.length + uptoBulk d + 1
  | (_, d) => uptoBulk d + 1
 end
def uptoSmall : (H : Type) → List (DataW H) → Bool := fun _ ds => decide (uptoBulkAll ds ≤ 1048576)
def OpenSpec.upto (s : _root_.Go.ChangeSpec) : _root_.Go.OpenSpec := { _root_.Go.OpenSpec.ofChange s with cond := some uptoSmall }

/-- 'graverlaw23.ArlistSplits', WHERE WHAT IT READS IS OF BULK AT MOST 1048576: true; the input reads as it did. -/
def arlistSplitsUptoRow : OpenClaim := { program := "ytienjagoplcimaa", sum := "a5ac3296ef76179bba37d025715c2153a48966e5d6e387c105b908468aaf5bde", func := "graver/graverlaw23.ArlistSplits", spec := "arlistSplits", inPlace := ["slices.overlaps[graver/ar.Member]", "internal/bytealg.IndexByteString", "internal/bytealg.IndexString"], unfollowed := true, recurses := true, named := ["internal/bytealg.MaxLen"], apart := false, narrowed := true }
def ArlistSplitsUptoSaid : Prop := arlistSplitsUptoRow.holds Try.pinned (OpenSpec.upto arlistSplitsSpec)

/-- 'graverlaw23.ArlistUndoes', WHERE WHAT IT READS IS OF BULK AT MOST 1048576: true; the input reads as it did. -/
def arlistUndoesUptoRow : OpenClaim := { program := "ytienjagoplcimaa", sum := "a5ac3296ef76179bba37d025715c2153a48966e5d6e387c105b908468aaf5bde", func := "graver/graverlaw23.ArlistUndoes", spec := "arlistUndoes", inPlace := ["slices.overlaps[graver/ar.Member]", "internal/bytealg.IndexByteString", "internal/bytealg.IndexString"], unfollowed := true, recurses := true, named := ["internal/bytealg.MaxLen"], apart := false, narrowed := true }
def ArlistUndoesUptoSaid : Prop := arlistUndoesUptoRow.holds Try.pinned (OpenSpec.upto arlistUndoesSpec)

/-- 'graverlaw23.ArlistMany', WHERE WHAT IT READS IS OF BULK AT MOST 1048576: true; the input reads as it did. -/
def arlistManyUptoRow : OpenClaim := { program := "ytienjagoplcimaa", sum := "a5ac3296ef76179bba37d025715c2153a48966e5d6e387c105b908468aaf5bde", func := "graver/graverlaw23.ArlistMany", spec := "arlistMany", inPlace := ["slices.overlaps[graver/ar.Member]", "internal/bytealg.IndexByteString", "internal/bytealg.IndexString"], unfollowed := true, recurses := true, named := ["internal/bytealg.MaxLen"], apart := false, narrowed := true }
def ArlistManyUptoSaid : Prop := arlistManyUptoRow.holds Try.pinned (OpenSpec.upto arlistManySpec)

/-- 'graverlaw23.ArlistPlays', WHERE WHAT IT READS IS OF BULK AT MOST 1048576: true; the input reads as it did. -/
def arlistPlaysUptoRow : OpenClaim := { program := "ytienjagoplcimaa", sum := "a5ac3296ef76179bba37d025715c2153a48966e5d6e387c105b908468aaf5bde", func := "graver/graverlaw23.ArlistPlays", spec := "arlistPlays", inPlace := ["slices.overlaps[graver/ar.Member]", "internal/bytealg.IndexByteString", "internal/bytealg.IndexString"], unfollowed := true, recurses := true, named := ["internal/bytealg.MaxLen"], apart := false, narrowed := true }
def ArlistPlaysUptoSaid : Prop := arlistPlaysUptoRow.holds Try.pinned (OpenSpec.upto arlistPlaysSpec)

/-- 'graverlaw23.ArlistSorts', WHERE WHAT IT READS IS OF BULK AT MOST 1048576: true; the input reads as it did. -/
def arlistSortsUptoRow : OpenClaim := { program := "ytienjagoplcimaa", sum := "a5ac3296ef76179bba37d025715c2153a48966e5d6e387c105b908468aaf5bde", func := "graver/graverlaw23.ArlistSorts", spec := "arlistSorts", inPlace := ["slices.overlaps[graver/ar.Member]"], unfollowed := true, recurses := true, apart := false, narrowed := true }
def ArlistSortsUptoSaid : Prop := arlistSortsUptoRow.holds Try.pinned (OpenSpec.upto arlistSortsSpec)

end Rows
end Go.Proofs.Ytienjagoplcimaa
