/- More ends of functions; strings. -/
import Derived.Test.YtlfpkjlaajfjnaaShH
import Derived.Laws.StructEq
import Derived.Laws.Concat
import Derived.MapKept
set_option linter.unusedVariables false
set_option linter.unusedSimpArgs false
namespace Go.Sh
open Go.RowKit

/-! ### Strings -/
theorem eqStr {P:Program} {t:TypeId} {x y:Operand} {a b:ByteArray} (w:World):(binS .eql t x y (.string a) (.string b)).run P w = .ok (.bool (a == b)) w:=by
 rw[beq_toListBytes]
 simp [binS,eqGuard,binOp,Op.stringOp]
end Go.Sh
namespace Go.Sh
end Go.Sh
namespace Go.Sh
open Go.RowKit
section
variable {P:Program} {t:TypeId} {x y:Operand} {k:IntKind} {a b r:Int} (w:World)
end
end Go.Sh
namespace Go.Sh
end Go.Sh
namespace Go.Sh
end Go.Sh
namespace Go.Sh
open Go.RowKit
end Go.Sh
