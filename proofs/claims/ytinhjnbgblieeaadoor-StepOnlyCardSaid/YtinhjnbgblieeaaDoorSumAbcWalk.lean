/- The walk of abc. -/
import Derived.Test.YtinhjnbgblieeaaDoorSumHex
import Derived.Test.YtinhjnbgblieeaaDoorSumAbc
namespace Go.Proofs.YtinhjnbgblieeaaDoor
open Go.RowKit
set_option linter.unusedVariables false
set_option linter.unusedSimpArgs false

end Go.Proofs.YtinhjnbgblieeaaDoor
