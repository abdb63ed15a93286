/- What the data of the law's parameters say, and that they open. -/
import Derived.Test.YtcfbdnlbgcoicaaDoorXNotesx0
import Derived.Test.YtcfbdnlbgcoicaaDoorOpen
namespace Go.Proofs.YtcfbdnlbgcoicaaDoorX.Notes
set_option linter.unusedVariables false
open Go.RowKit Go.Proofs.YtcfbdnlbgcoicaaDoor Go.Proofs.YtcfbdnlbgcoicaaDoorW.PrintWords
def Q33 (z : S33) : Prop := ((Lit.int .u64 z.f0).wf = true) ∧ (z.f1.size ≤ maxLen) ∧ (z.f2.size ≤ maxLen)
theorem opT33 {H : Type} {enc : TypeId × Value → H} {w : World} {sp : Nat → Bool} {held : Bool} : Opens enc Tryd.prog w sp held 33 k33 Q33 :=
  Opens.struct (fun z => (⟨z.1, z.2.1, z.2.2⟩ : S33)) (fun _ => rfl) Tryd.underlying33 (by kernel_rfl) rfl (OpensP.cons (by kernel_rfl) (Opens.int Tryd.underlying31) (OpensP.cons (by kernel_rfl) (Opens.string Tryd.underlying9) (OpensP.one (by kernel_rfl) (Opens.string Tryd.underlying9))))
theorem opA22 {H : Type} {enc : TypeId × Value → H} {w : World} {sp : Nat → Bool} {held : Bool} : Opens enc Tryd.prog w sp held 22 (Kd.slice 33 k33) (fun l => (∀ z ∈ l, Q33 z) ∧ l.length ≤ maxLen) := (Opens.slice Tryd.underlying22 (by kernel_rfl) opT33)
end Go.Proofs.YtcfbdnlbgcoicaaDoorX.Notes
