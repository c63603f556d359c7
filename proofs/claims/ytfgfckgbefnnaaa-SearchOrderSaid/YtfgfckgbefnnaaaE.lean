/- Structs are compared field by field. -/
import Derived.Test.YtfgfckgbefnnaaaTy
import Derived.Test.YtfgfckgbefnnaaaX
set_option linter.unusedVariables false
set_option maxHeartbeats 4000000
set_option linter.unusedSimpArgs false
set_option maxRecDepth 100000
namespace Go.Proofs.Ytfgfckgbefnnaaa
open Go Go.Sh Go.Px

end Go.Proofs.Ytfgfckgbefnnaaa
