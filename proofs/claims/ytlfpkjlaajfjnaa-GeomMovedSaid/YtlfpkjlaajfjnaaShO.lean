/- Strings: what printed walks need of them. -/
import Derived.Test.YtlfpkjlaajfjnaaShN
import Derived.Laws.Slices
set_option linter.unusedVariables false
set_option linter.unusedSimpArgs false
namespace Go.Sh
open Go.RowKit
section
variable {P:Program} {E:Operand→SV} {hp:Nat→Option Blk} {id:Nat} {t e tx dt sl:TypeId} {x lo ix:Operand} {k:IntKind} {i:Int} {s:ByteArray} {f:Int→SV} {m:List Int} {d:Bool} {u:SV}
end
end Go.Sh
