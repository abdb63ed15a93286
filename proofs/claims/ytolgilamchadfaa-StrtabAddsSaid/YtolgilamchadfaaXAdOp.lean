/- What the data of the law's parameters say, and that they open. -/
import Derived.Test.YtolgilamchadfaaXAdx0
import Derived.Test.YtolgilamchadfaaOpen
namespace Go.Proofs.YtolgilamchadfaaX.Ad
set_option linter.unusedVariables false
open Go.RowKit Go.Proofs.Ytolgilamchadfaa Go.Proofs.YtolgilamchadfaaW.PrintWords
end Go.Proofs.YtolgilamchadfaaX.Ad
