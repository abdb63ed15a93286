/- What the data of the law's parameters say, and that they open. -/
import Derived.Test.YtipnoeffahnfaaaDoorXCox0
import Derived.Test.YtipnoeffahnfaaaDoorOpen
namespace Go.Proofs.YtipnoeffahnfaaaDoorX.Co
set_option linter.unusedVariables false
open Go.RowKit Go.Proofs.YtipnoeffahnfaaaDoor Go.Proofs.YtipnoeffahnfaaaDoorW.PrintWords
theorem opA28 {H : Type} {enc : TypeId × Value → H} {w : World} {sp : Nat → Bool} {held : Bool} : Opens enc Tryd.prog w sp held 28 (Kd.slice 29 (Kd.slice 9 Kd.string)) (fun l => (∀ z ∈ l, (∀ z_ ∈ z, z_.size ≤ maxLen) ∧ z.length ≤ maxLen) ∧ l.length ≤ maxLen) := (Opens.slice Tryd.underlying28 (by kernel_rfl) (Opens.slice Tryd.underlying29 (by kernel_rfl) (Opens.string Tryd.underlying9)))
theorem opA3 {H : Type} {enc : TypeId × Value → H} {w : World} {sp : Nat → Bool} {held : Bool} : Opens enc Tryd.prog w sp held 3 (Kd.int .i64) (fun l => (Lit.int .i64 l).wf = true) := (Opens.int Tryd.underlying3)
end Go.Proofs.YtipnoeffahnfaaaDoorX.Co
