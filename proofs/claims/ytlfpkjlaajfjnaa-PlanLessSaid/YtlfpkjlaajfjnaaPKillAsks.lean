/- The law KillAsks over the plain functions. -/
import Derived.Test.YtlfpkjlaajfjnaaPKill
set_option linter.unusedVariables false
set_option linter.unusedSimpArgs false
namespace Go.Px
open Go Go.Sh
end Go.Px
