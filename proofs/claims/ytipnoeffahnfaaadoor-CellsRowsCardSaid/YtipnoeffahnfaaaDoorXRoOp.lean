/- What the data of the law's parameters say, and that they open. -/
import Derived.Test.YtipnoeffahnfaaaDoorXRox0
import Derived.Test.YtipnoeffahnfaaaDoorOpen
namespace Go.Proofs.YtipnoeffahnfaaaDoorX.Ro
set_option linter.unusedVariables false
open Go.RowKit Go.Proofs.YtipnoeffahnfaaaDoor Go.Proofs.YtipnoeffahnfaaaDoorW.PrintWords
theorem opA28 {H : Type} {enc : TypeId × Value → H} {w : World} {sp : Nat → Bool} {held : Bool} : Opens enc Tryd.prog w sp held 28 (Kd.slice 29 (Kd.slice 9 Kd.string)) (fun l => (∀ z ∈ l, (∀ z_ ∈ z, z_.size ≤ maxLen) ∧ z.length ≤ maxLen) ∧ l.length ≤ maxLen) := (Opens.slice Tryd.underlying28 (by kernel_rfl) (Opens.slice Tryd.underlying29 (by kernel_rfl) (Opens.string Tryd.underlying9)))
end Go.Proofs.YtipnoeffahnfaaaDoorX.Ro
