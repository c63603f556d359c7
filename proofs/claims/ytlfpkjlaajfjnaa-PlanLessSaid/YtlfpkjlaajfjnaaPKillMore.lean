/- The law KillMore over the plain functions. -/
import Derived.Test.YtlfpkjlaajfjnaaPKillAsks
set_option linter.unusedVariables false
set_option linter.unusedSimpArgs false
namespace Go.Px
open Go Go.Sh
end Go.Px
