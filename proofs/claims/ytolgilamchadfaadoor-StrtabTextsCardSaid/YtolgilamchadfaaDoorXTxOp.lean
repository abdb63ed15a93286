/- What the data of the law's parameters say, and that they open. -/
import Derived.Test.YtolgilamchadfaaDoorXTxx0
import Derived.Test.YtolgilamchadfaaDoorOpen
namespace Go.Proofs.YtolgilamchadfaaDoorX.Tx
set_option linter.unusedVariables false
open Go.RowKit Go.Proofs.YtolgilamchadfaaDoor Go.Proofs.YtolgilamchadfaaDoorW.PrintWords
end Go.Proofs.YtolgilamchadfaaDoorX.Tx
