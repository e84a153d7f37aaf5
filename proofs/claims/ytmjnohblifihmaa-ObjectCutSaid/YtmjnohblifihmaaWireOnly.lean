/- The walk of the law WireOnly. -/
import Derived.Test.YtmjnohblifihmaaWireGet
import Derived.Test.YtmjnohblifihmaaWirePut
namespace Go.Proofs.Ytmjnohblifihmaa
open Go.RowKit
set_option linter.unusedVariables false

end Go.Proofs.Ytmjnohblifihmaa
