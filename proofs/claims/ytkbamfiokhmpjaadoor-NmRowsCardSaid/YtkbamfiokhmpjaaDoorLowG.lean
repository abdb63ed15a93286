/- Contracts over this translation: strings.ToLower at short texts of the first 128 letters. -/
import Derived.Test.YtkbamfiokhmpjaaDoorKit
import Derived.Test.YtkbamfiokhmpjaaDoorShelf
namespace Go.Proofs.YtkbamfiokhmpjaaDoor
set_option linter.unusedVariables false
open Go.RowKit Go.Shelf

theorem lower_g (s : ByteArray) (hc : s.size ≤ 1000 ∧ (s.data.toList.all fun b => decide (b.toNat < 128)) = true) (w : World) : Calls Tryd.prog 19 #[.string s] w fun e w' => e = .returned (.string ⟨(Lib.toLowerA s.data.toList).toArray⟩) ∧ Below w.heap.size w w' :=
  Tryd.strings_ToLower_ascii s w (by omega) (fun j b hj => by
    have h := List.all_eq_true.1 hc.2 b (List.mem_of_getElem? hj)
    simpa using h)
end Go.Proofs.YtkbamfiokhmpjaaDoor
