/- Plain facts of numbers and lists that all laws use. -/
import Derived.Test.YtlfpkjlaajfjnaaX
set_option linter.unusedVariables false
namespace Go.Px
open Go Go.Sh
theorem um (a m : Int) (h : 0 < m) : 0 ≤ (IntKind.u64.wrap a).tmod m ∧ (IntKind.u64.wrap a).tmod m < m := by
  have h0 : 0 ≤ IntKind.u64.wrap a := by
    rw [IntKind.wrap_u64]; omega
  exact ⟨Int.tmod_nonneg _ h0, Int.tmod_lt_of_pos _ h⟩
theorem wr_id {x : Int} (h1 : -9223372036854775808 ≤ x) (h2 : x ≤ 9223372036854775807) : wr x = x := w64 h1 h2
theorem wu_id {x : Int} (h1 : 0 ≤ x) (h2 : x ≤ 18446744073709551615) : IntKind.u64.wrap x = x := wu64 h1 h2
section
variable {α β : Type}
theorem condT {c : Bool} {a b : α} (h : c = true) : cond c a b = a := by rw [h]; rfl
theorem condF {c : Bool} {a b : α} (h : c = false) : cond c a b = b := by rw [h]; rfl
theorem condD {p : Prop} {_ : Decidable p} {a b : α} (h : p) : cond (decide p) a b = a := by rw [decide_eq_true h]; rfl
theorem condN {p : Prop} {_ : Decidable p} {a b : α} (h : ¬ p) : cond (decide p) a b = b := by rw [decide_eq_false h]; rfl
theorem gdD {p : Prop} {_ : Decidable p} {r : Option α} (h : p) : gd (decide p) r = r := by rw [decide_eq_true h]; rfl
theorem elim_go {γ : Type} {a : α} {f : α → γ} {g : β → γ} : Ex.elim (.go a) f g = f a := (exg rfl).symm
theorem elim_rt {γ : Type} {b : β} {f : α → γ} {g : β → γ} : Ex.elim (.rt b) f g = g b := (exr rfl).symm
theorem bindS {x : Option α} {a : α} {f : α → Option β} (h : x = some a) : Option.bind x f = f a := by rw [h]; rfl
theorem idx_get {l : List α} {i : Int} {y : α} (h0 : 0 ≤ i) (h : l[i.toNat]? = some y) : idx l i = some y := by unfold idx; rw [if_pos h0, h]
theorem idx_nat {l : List α} {n : Nat} (h : n < l.length) : idx l (n : Int) = some l[n] := idx_get (by omega) (by rw [Int.toNat_natCast]; exact List.getElem?_eq_getElem h)
theorem slc_eq {l : List α} {lo hi : Int} (h : 0 ≤ lo ∧ lo ≤ hi ∧ hi ≤ (l.length : Int)) : slc l lo hi = some ((l.drop lo.toNat).take (hi.toNat - lo.toNat)) := by unfold slc; rw [if_pos h]
theorem optc_some {x : α} {a : Option β} {f : α → Option β} : optc (some x) a f = f x := (opts rfl).symm
theorem optc_none {a : Option β} {f : α → Option β} : optc none a f = a := (optn rfl).symm
end
theorem wr_succ {i : Nat} (h : i < 4294967296) : wr ((i : Int) + 1) = ((i + 1 : Nat) : Int) := by rw [wr_id (by omega) (by omega)]; omega
end Go.Px
