/- Contracts over this translation: strings.ToLower at short texts of the first 128 letters. -/
import Derived.Test.YtkbamfiokhmpjaaGreatDoorKit
import Derived.Test.YtkbamfiokhmpjaaGreatDoorShelf
namespace Go.Proofs.YtkbamfiokhmpjaaGreatDoor
set_option linter.unusedVariables false
open Go.RowKit Go.Shelf

theorem lower_g (s : ByteArray) (hc : s.size ≤ 1000 ∧ (s.data.toList.all fun b => decide (b.toNat < 128)) = true) (w : World) : Calls Tryz.prog 50 #[.string s] w fun e w' => e = .returned (.string ⟨(Lib.toLowerA s.data.toList).toArray⟩) ∧ Below w.heap.size w w' :=
  Tryz.strings_ToLower_ascii s w (by omega) (fun j b hj => by
    have h := List.all_eq_true.1 hc.2 b (List.mem_of_getElem? hj)
    simpa using h)
end Go.Proofs.YtkbamfiokhmpjaaGreatDoor
