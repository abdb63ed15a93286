/- Contracts over this translation: the law package's formOf and speaks. -/
import Derived.Test.YtcfbdnlbgcoicaaDoorDynG
import Derived.Test.YtcfbdnlbgcoicaaDoorDynB
import Derived.Laws.Rows
namespace Go.Proofs.YtcfbdnlbgcoicaaDoor
set_option linter.unusedVariables false
set_option linter.unusedSimpArgs false
open Go.RowKit

def bigOf (x : Int) : Bool := bits .and .i64 x 1 == 1
def wideOf (x : Int) : Bool := bits .and .i64 x 2 == 2
theorem Tryd.sizeForm : (Tryd.prog.info? 27).map (·.size) = some 2 := by kernel_rfl
theorem formOf_any (x : Int) (w : World) :
    Calls Tryd.prog 8 #[.int .i64 x] w fun e w' => e = .returned (.agg #[.bool (bigOf x), .bool (wideOf x)]) ∧ Below w.heap.size w w' := by
  unfold bigOf wideOf
  go_enter Tryd.func8, Tryd.ntmps8
  go_wp2
  refine ⟨rfl, .agg #[.bool (bits .and .i64 x 1 == 1), .bool (bits .and .i64 x 2 == 2)], ?_, rfl, (Below.refl _ _).alloc (Nat.le_refl _) _⟩
  exact results_cell_row rfl _ _ w.heap.size 27 #[.bool (bits .and .i64 x 1 == 1), .bool (bits .and .i64 x 2 == 2)] (0, 0) _ rfl (heap_at _ _ _ rfl) Tryd.underlying27 rfl Tryd.sizeForm

def noteA : NoteD := ⟨5, [97], []⟩
theorem noteA_fit : noteFit false noteA = true := by rfl
theorem noteA_len : (noteL false false noteA).length = 16 := by rfl
theorem noteA_back : noteR false (16 + 1) (noteL false false noteA) = .ok [noteA] := by rfl
theorem dyn0 : dynOk true [] = true ∧ (dynL false true []).length = 16 := ⟨by rfl, by rfl⟩
theorem form0 : bigOf 0 = false ∧ wideOf 0 = false ∧ bigOf 2 = false ∧ wideOf 2 = true := by decide
end Go.Proofs.YtcfbdnlbgcoicaaDoor
