/- The law RecordEdges over the plain functions. -/
import Derived.Test.YtijfhnpmdhonhaaPBase
namespace Go.Px
open Go Go.Sh
theorem RecordEdges_true (a0 : Int) (h0 : okI a0) (a1 : Int) (h1 : okI a1) : ∃ k, law22_RecordEdges k a0 a1 = some true := by
  refine ⟨60, ?_⟩
  unfold law22_RecordEdges
  have h1 := um a0 6 (by omega)
  have h2 := um a1 4 (by omega)
  generalize (IntKind.u64.wrap a0).tmod 6 = x at *
  generalize (IntKind.u64.wrap a1).tmod 4 = y at *
  have hx : x = 0 ∨ x = 1 ∨ x = 2 ∨ x = 3 ∨ x = 4 ∨ x = 5 := by omega
  have hy : y = 0 ∨ y = 1 ∨ y = 2 ∨ y = 3 := by omega
  clear h1 h2
  rcases hx with rfl | rfl | rfl | rfl | rfl | rfl <;> rcases hy with rfl | rfl | rfl | rfl <;> decide +kernel
end Go.Px
