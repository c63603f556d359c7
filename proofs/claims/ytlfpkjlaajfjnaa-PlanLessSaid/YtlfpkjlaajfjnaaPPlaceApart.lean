/- The laws PlaceApart and PlaceRadius over the plain functions. -/
import Derived.Test.YtlfpkjlaajfjnaaPKillMore
import Derived.Test.YtlfpkjlaajfjnaaPPlaceTop
set_option linter.unusedVariables false
set_option linter.unusedSimpArgs false
namespace Go.Px
open Go Go.Sh
/- venues alike in all but kills, poles and radius -/
end Go.Px
