/- Structs are compared field by field. -/
import Derived.Test.YtlfpkjlaajfjnaaTy
import Derived.Test.YtlfpkjlaajfjnaaX
set_option linter.unusedVariables false
set_option maxHeartbeats 4000000
set_option linter.unusedSimpArgs false
set_option maxRecDepth 100000
namespace Go.Proofs.Ytlfpkjlaajfjnaa
open Go Go.Sh Go.Px

end Go.Proofs.Ytlfpkjlaajfjnaa
