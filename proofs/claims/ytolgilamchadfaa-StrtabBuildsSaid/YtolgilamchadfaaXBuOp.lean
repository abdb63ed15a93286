/- What the data of the law's parameters say, and that they open. -/
import Derived.Test.YtolgilamchadfaaXBux0
import Derived.Test.YtolgilamchadfaaOpen
namespace Go.Proofs.YtolgilamchadfaaX.Bu
set_option linter.unusedVariables false
open Go.RowKit Go.Proofs.Ytolgilamchadfaa Go.Proofs.YtolgilamchadfaaW.PrintWords
theorem opA22 {H : Type} {enc : TypeId × Value → H} {w : World} {sp : Nat → Bool} {held : Bool} : Opens enc Try.prog w sp held 22 (Kd.slice 9 Kd.string) (fun l => (∀ z ∈ l, z.size ≤ maxLen) ∧ l.length ≤ maxLen) := (Opens.slice Try.underlying22 (by kernel_rfl) (Opens.string Try.underlying9))
end Go.Proofs.YtolgilamchadfaaX.Bu
