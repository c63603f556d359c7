/- Plain facts of numbers that all laws use. -/
import Derived.Test.YtijfhnpmdhonhaaX
set_option linter.unusedVariables false
namespace Go.Px
open Go Go.Sh
theorem um (a m : Int) (h : 0 < m) : 0 ≤ (IntKind.u64.wrap a).tmod m ∧ (IntKind.u64.wrap a).tmod m < m := by
  have h0 : 0 ≤ IntKind.u64.wrap a := by
    rw [IntKind.wrap_u64]; omega
  exact ⟨Int.tmod_nonneg _ h0, Int.tmod_lt_of_pos _ h⟩
end Go.Px
