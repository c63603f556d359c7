/- The pieces that Runs gathers. -/
import Derived.Test.YtlfpkjlaajfjnaaPKillAsks
import Derived.Test.YtlfpkjlaajfjnaaPRun
set_option linter.unusedVariables false
set_option linter.unusedSimpArgs false
namespace Go.Px
open Go Go.Sh
end Go.Px
