/- What the data of the law's parameters say, and that they open. -/
import Derived.Test.YtolgilamchadfaaDoorXAgx0
import Derived.Test.YtolgilamchadfaaDoorOpen
namespace Go.Proofs.YtolgilamchadfaaDoorX.Ag
set_option linter.unusedVariables false
open Go.RowKit Go.Proofs.YtolgilamchadfaaDoor Go.Proofs.YtolgilamchadfaaDoorW.PrintWords
theorem opA22 {H : Type} {enc : TypeId × Value → H} {w : World} {sp : Nat → Bool} {held : Bool} : Opens enc Tryd.prog w sp held 22 (Kd.slice 9 Kd.string) (fun l => (∀ z ∈ l, z.size ≤ maxLen) ∧ l.length ≤ maxLen) := (Opens.slice Tryd.underlying22 (by kernel_rfl) (Opens.string Tryd.underlying9))
end Go.Proofs.YtolgilamchadfaaDoorX.Ag
