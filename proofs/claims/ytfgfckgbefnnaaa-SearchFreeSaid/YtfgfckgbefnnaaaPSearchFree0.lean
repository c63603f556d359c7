/- The plain law, in parts: Base, SearchFree. -/
import Derived.Test.YtfgfckgbefnnaaaX
set_option linter.unusedVariables false
namespace Go.Px
open Go Go.Sh
theorem um (a m : Int) (h : 0 < m) : 0 ≤ (IntKind.u64.wrap a).tmod m ∧ (IntKind.u64.wrap a).tmod m < m := by
  have h0 : 0 ≤ IntKind.u64.wrap a := by
    rw [IntKind.wrap_u64]; omega
  exact ⟨Int.tmod_nonneg _ h0, Int.tmod_lt_of_pos _ h⟩
theorem wu_id {x : Int} (h1 : 0 ≤ x) (h2 : x ≤ 18446744073709551615) : IntKind.u64.wrap x = x := wu64 h1 h2
section
variable {α β : Type}
end
end Go.Px

set_option linter.unusedVariables false
set_option linter.unusedSimpArgs false
set_option maxRecDepth 100000
namespace Go.Px
open Go Go.Sh
theorem sfree_l0 {k : Nat} {a b x y : Int} (h1 : (IntKind.u64.wrap a).tmod 6 = (IntKind.u64.wrap x).tmod 6) (h2 : (IntKind.u64.wrap b).tmod 6 = (IntKind.u64.wrap y).tmod 6) : ∀ (n : Nat) (v : List Seat) (i : Int), law15_SearchFree_l0 k a b n v i = law15_SearchFree_l0 k x y n v i
  | 0, v, i => by rw [law15_SearchFree_l0, law15_SearchFree_l0]
  | n + 1, v, i => by
    have ih := fun v i => sfree_l0 h1 h2 n v i (k := k)
    rw [law15_SearchFree_l0, law15_SearchFree_l0, h1, h2, ih]
theorem sfree_l1 {k : Nat} {a x : Int} (h1 : (IntKind.u64.wrap a).tmod 6 = (IntKind.u64.wrap x).tmod 6) : ∀ (n : Nat) (v : List Party) (w : List Int) (i : Int), law15_SearchFree_l1 k a n v w i = law15_SearchFree_l1 k x n v w i
  | 0, v, w, i => by rw [law15_SearchFree_l1, law15_SearchFree_l1]
  | n + 1, v, w, i => by
    have ih := fun v w i => sfree_l1 h1 n v w i (k := k)
    rw [law15_SearchFree_l1, law15_SearchFree_l1, h1, ih]
theorem sfree_eq {k : Nat} {a b x y : Int} (h1 : (IntKind.u64.wrap a).tmod 6 = (IntKind.u64.wrap x).tmod 6) (h2 : (IntKind.u64.wrap b).tmod 6 = (IntKind.u64.wrap y).tmod 6) : law15_SearchFree k a b = law15_SearchFree k x y := by
  unfold law15_SearchFree
  rw [sfree_l0 h1 h2, sfree_l1 h1]
theorem sfree0 : ∀ y, y < 6 → law15_SearchFree 2000 0 ((y : Nat) : Int) = some true := by decide +kernel
theorem sfree1 : ∀ y, y < 6 → law15_SearchFree 2000 1 ((y : Nat) : Int) = some true := by decide +kernel
theorem sfree2 : ∀ y, y < 6 → law15_SearchFree 2000 2 ((y : Nat) : Int) = some true := by decide +kernel
theorem sfree3 : ∀ y, y < 6 → law15_SearchFree 2000 3 ((y : Nat) : Int) = some true := by decide +kernel
theorem sfree4 : ∀ y, y < 6 → law15_SearchFree 2000 4 ((y : Nat) : Int) = some true := by decide +kernel
theorem sfree5 : ∀ y, y < 6 → law15_SearchFree 2000 5 ((y : Nat) : Int) = some true := by decide +kernel
theorem SearchFree_true (a0 : Int) (h0 : okI a0) (a1 : Int) (h1 : okI a1) : ∃ k, law15_SearchFree k a0 a1 = some true := by
  refine ⟨2000, ?_⟩
  obtain ⟨u0, u1⟩ := um a0 6 (by omega)
  obtain ⟨w0, w1⟩ := um a1 6 (by omega)
  obtain ⟨x, hx⟩ := Int.eq_ofNat_of_zero_le u0
  obtain ⟨y, hy⟩ := Int.eq_ofNat_of_zero_le w0
  have hx : (IntKind.u64.wrap a0).tmod 6 = (x : Int) := hx
  have hy : (IntKind.u64.wrap a1).tmod 6 = (y : Int) := hy
  have hxx : (IntKind.u64.wrap (x : Int)).tmod 6 = (x : Int) := by rw [wu_id (by omega) (by omega), Int.tmod_eq_of_lt (by omega) (by omega)]
  have hyy : (IntKind.u64.wrap (y : Int)).tmod 6 = (y : Int) := by rw [wu_id (by omega) (by omega), Int.tmod_eq_of_lt (by omega) (by omega)]
  rw [sfree_eq (x := (x : Int)) (y := (y : Int)) (by rw [hx, hxx]) (by rw [hy, hyy])]
  have hxl : x < 6 := by omega
  have hyl : y < 6 := by omega
  have hc : x = 0 ∨ x = 1 ∨ x = 2 ∨ x = 3 ∨ x = 4 ∨ x = 5 := by omega
  rcases hc with rfl | rfl | rfl | rfl | rfl | rfl
  · exact sfree0 y hyl
  · exact sfree1 y hyl
  · exact sfree2 y hyl
  · exact sfree3 y hyl
  · exact sfree4 y hyl
  · exact sfree5 y hyl
end Go.Px
