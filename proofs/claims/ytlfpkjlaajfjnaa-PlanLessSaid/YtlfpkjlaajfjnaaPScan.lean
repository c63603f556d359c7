/- Loops that scan or gather. -/
import Derived.Test.YtlfpkjlaajfjnaaX
import Derived.Test.YtlfpkjlaajfjnaaPBase
set_option linter.unusedVariables false
namespace Go.Px
open Go Go.Sh
section
variable {ρ α : Type}
theorem scan_go {f : Nat → Int → Option (Ex Unit ρ)} {len : Nat} {good : Nat → Prop}
    (hs : ∀ n i : Nat, i < len → good i → f (n + 1) (i : Int) = f n ((i + 1 : Nat) : Int))
    (he : ∀ n, f (n + 1) (len : Int) = some (.go ())) : ∀ d n i : Nat, i + d = len → d < n → (∀ j, i ≤ j → j < len → good j) → f n (i : Int) = some (.go ())
  | d, 0, i, _, h, _ => absurd h (by omega)
  | 0, n + 1, i, hi, _, _ => by
    obtain rfl : i = len := by omega
    exact he n
  | d + 1, n + 1, i, hi, h, hg => by
    rw [hs n i (by omega) (hg i (by omega) (by omega))]
    exact scan_go hs he d n (i + 1) (by omega) (by omega) (fun j h1 h2 => hg j (by omega) h2)
theorem scan_rt {f : Nat → Int → Option (Ex Unit ρ)} {len : Nat} {good : Nat → Prop} {r : ρ}
    (hs : ∀ n i : Nat, i < len → good i → f (n + 1) (i : Int) = f n ((i + 1 : Nat) : Int))
    (hf : ∀ n i : Nat, i < len → ¬ good i → f (n + 1) (i : Int) = some (.rt r)) : ∀ d n i : Nat, i + d = len → d < n → (∃ j, i ≤ j ∧ j < len ∧ ¬ good j) → f n (i : Int) = some (.rt r)
  | d, 0, i, _, h, _ => absurd h (by omega)
  | 0, n + 1, i, hi, _, hg => by
    obtain ⟨j, h1, h2, _⟩ := hg
    omega
  | d + 1, n + 1, i, hi, h, hg => by
    rcases Classical.em (good i) with hh | hh
    · rw [hs n i (by omega) hh]
      refine scan_rt hs hf d n (i + 1) (by omega) (by omega) ?_
      obtain ⟨j, h1, h2, h3⟩ := hg
      refine ⟨j, ?_, h2, h3⟩
      rcases Nat.lt_or_ge i j with hl | hl
      · omega
      · exact absurd (show good j from by rw [show j = i by omega]; exact hh) h3
    · exact hf n i (by omega) hh
/-- A scan that starts at 0: it goes through when all are good, else it hands back `r`. -/
theorem scan {f : Nat → Int → Option (Ex Unit ρ)} {len : Nat} (good : Nat → Prop) {r : ρ}
    (hs : ∀ n i : Nat, i < len → good i → f (n + 1) (i : Int) = f n ((i + 1 : Nat) : Int))
    (hf : ∀ n i : Nat, i < len → ¬ good i → f (n + 1) (i : Int) = some (.rt r))
    (he : ∀ n, f (n + 1) (len : Int) = some (.go ())) {k : Nat} (hk : len < k) :
    ((∀ j, j < len → good j) ∧ f k 0 = some (.go ())) ∨ ((¬ ∀ j, j < len → good j) ∧ f k 0 = some (.rt r)) := by
  rcases Classical.em (∀ j, j < len → good j) with h | h
  · exact .inl ⟨h, scan_go hs he len k 0 (by omega) hk fun j _ h2 => h j h2⟩
  · refine .inr ⟨h, scan_rt hs hf len k 0 (by omega) hk ?_⟩
    obtain ⟨j, hj⟩ := Classical.not_forall.1 h
    obtain ⟨h1, h2⟩ := Classical.not_imp.1 hj
    exact ⟨j, by omega, h1, h2⟩
/-- A loop that gathers `g i` for each `i` with `p i`. -/
theorem gather {f : Nat → List α → Int → Option (List α)} {len c : Nat} (p : Nat → Bool) (g : Nat → α)
    (hs : ∀ (n i : Nat) v, i < len → v.length ≤ c + i → f (n + 1) v (i : Int) = f n (if p i then v ++ [g i] else v) ((i + 1 : Nat) : Int))
    (he : ∀ n v, f (n + 1) v (len : Int) = some v) : ∀ (d n i : Nat) v, i + d = len → d < n → v.length ≤ c + i → f n v (i : Int) = some (v ++ ((List.range' i d).filter p).map g)
  | d, 0, i, v, _, h, _ => absurd h (by omega)
  | 0, n + 1, i, v, hi, _, _ => by
    obtain rfl : i = len := by omega
    rw [he]
    simp
  | d + 1, n + 1, i, v, hi, h, hv => by
    rw [hs n i v (by omega) hv]
    have := gather p g hs he d n (i + 1) (if p i then v ++ [g i] else v) (by omega) (by omega) (by split <;> (try rw [List.length_append, List.length_singleton]) <;> omega)
    rw [this, List.range'_succ, List.filter_cons]
    cases p i <;> simp
theorem gather0 {f : Nat → List α → Int → Option (List α)} {len c : Nat} (p : Nat → Bool) (g : Nat → α)
    (hs : ∀ (n i : Nat) v, i < len → v.length ≤ c + i → f (n + 1) v (i : Int) = f n (if p i then v ++ [g i] else v) ((i + 1 : Nat) : Int))
    (he : ∀ n v, f (n + 1) v (len : Int) = some v) {k : Nat} (hk : len < k) (v : List α) (hv : v.length ≤ c) : f k v 0 = some (v ++ ((List.range len).filter p).map g) := by
  rw [List.range_eq_range']
  exact gather p g hs he len k 0 v (by omega) hk (by omega)
/-- A loop that fills a row: item `i` becomes `g i`. -/
theorem fill {f : Nat → List α → Int → Option (List α)} {len : Nat} (g : Nat → α)
    (hs : ∀ (n i : Nat) v, i < len → v.length = len → f (n + 1) v (i : Int) = f n (v.set i (g i)) ((i + 1 : Nat) : Int))
    (he : ∀ n v, v.length = len → f (n + 1) v (len : Int) = some v) : ∀ (d n i : Nat) v, i + d = len → d < n → v.length = len → f n v (i : Int) = some (v.take i ++ (List.range' i d).map g)
  | d, 0, i, v, _, h, _ => absurd h (by omega)
  | 0, n + 1, i, v, hi, _, hv => by
    obtain rfl : i = len := by omega
    rw [he _ _ hv, ← hv]
    simp
  | d + 1, n + 1, i, v, hi, h, hv => by
    rw [hs n i v (by omega) hv, fill g hs he d n (i + 1) (v.set i (g i)) (by omega) (by omega) (by rw [List.length_set, hv]), List.range'_succ]
    congr 1
    rw [List.take_add_one, List.take_set_of_le (by omega), List.getElem?_set_self (by omega)]
    simp
theorem fill0 {f : Nat → List α → Int → Option (List α)} {len : Nat} (g : Nat → α)
    (hs : ∀ (n i : Nat) v, i < len → v.length = len → f (n + 1) v (i : Int) = f n (v.set i (g i)) ((i + 1 : Nat) : Int))
    (he : ∀ n v, v.length = len → f (n + 1) v (len : Int) = some v) {k : Nat} (hk : len < k) (v : List α) (hv : v.length = len) : f k v 0 = some ((List.range len).map g) := by
  rw [List.range_eq_range']
  have := fill g hs he len k 0 v (by omega) hk hv
  rw [List.take_zero, List.nil_append] at this
  exact this
end
theorem wr_pred {i : Nat} (h : 0 < i) (h2 : i < 4294967296) : wr ((i : Int) - 1) = ((i - 1 : Nat) : Int) := by rw [wr_id (by omega) (by omega)]; omega
theorem cNT {α : Type} {a b : α} : cond (!true) a b = b := rfl
theorem cNF {α : Type} {a b : α} : cond (!false) a b = a := rfl
theorem condNT {p : Prop} [Decidable p] {α : Type} {a b : α} (h : p) : cond (!decide p) a b = b := by rw [decide_eq_true h]; rfl
theorem condNF {p : Prop} [Decidable p] {α : Type} {a b : α} (h : ¬ p) : cond (!decide p) a b = a := by rw [decide_eq_false h]; rfl
theorem condAnd {p q : Prop} [Decidable p] [Decidable q] {x : Option Bool} (h : x = some (decide q)) : cond (decide p) x (some false) = some (decide (p ∧ q)) := by
  by_cases hp : p
  · rw [condD hp, h]; simp [hp]
  · rw [condN hp]; simp [hp]
end Go.Px
