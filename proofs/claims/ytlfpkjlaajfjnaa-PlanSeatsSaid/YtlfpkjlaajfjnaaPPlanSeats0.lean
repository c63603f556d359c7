/- The plain law, in parts: Base, Scan, Venue, Make, Kill, KillAsks, KillMore, Run, Runs, Place, PlaceTop, PlaceApart, Plan, Plans, PlanPins, Owners, PlanSeats. -/
import Derived.Test.YtlfpkjlaajfjnaaX
set_option linter.unusedVariables false
namespace Go.Px
open Go Go.Sh
theorem um (a m : Int) (h : 0 < m) : 0 ≤ (IntKind.u64.wrap a).tmod m ∧ (IntKind.u64.wrap a).tmod m < m := by
  have h0 : 0 ≤ IntKind.u64.wrap a := by
    rw [IntKind.wrap_u64]; omega
  exact ⟨Int.tmod_nonneg _ h0, Int.tmod_lt_of_pos _ h⟩
theorem wr_id {x : Int} (h1 : -9223372036854775808 ≤ x) (h2 : x ≤ 9223372036854775807) : wr x = x := w64 h1 h2
theorem wu_id {x : Int} (h1 : 0 ≤ x) (h2 : x ≤ 18446744073709551615) : IntKind.u64.wrap x = x := wu64 h1 h2
section
variable {α β : Type}
theorem condT {c : Bool} {a b : α} (h : c = true) : cond c a b = a := by rw [h]; rfl
theorem condF {c : Bool} {a b : α} (h : c = false) : cond c a b = b := by rw [h]; rfl
theorem condD {p : Prop} {_ : Decidable p} {a b : α} (h : p) : cond (decide p) a b = a := by rw [decide_eq_true h]; rfl
theorem condN {p : Prop} {_ : Decidable p} {a b : α} (h : ¬ p) : cond (decide p) a b = b := by rw [decide_eq_false h]; rfl
theorem gdD {p : Prop} {_ : Decidable p} {r : Option α} (h : p) : gd (decide p) r = r := by rw [decide_eq_true h]; rfl
theorem elim_go {γ : Type} {a : α} {f : α → γ} {g : β → γ} : Ex.elim (.go a) f g = f a := (exg rfl).symm
theorem elim_rt {γ : Type} {b : β} {f : α → γ} {g : β → γ} : Ex.elim (.rt b) f g = g b := (exr rfl).symm
theorem bindS {x : Option α} {a : α} {f : α → Option β} (h : x = some a) : Option.bind x f = f a := by rw [h]; rfl
theorem idx_get {l : List α} {i : Int} {y : α} (h0 : 0 ≤ i) (h : l[i.toNat]? = some y) : idx l i = some y := by unfold idx; rw [if_pos h0, h]
theorem idx_nat {l : List α} {n : Nat} (h : n < l.length) : idx l (n : Int) = some l[n] := idx_get (by omega) (by rw [Int.toNat_natCast]; exact List.getElem?_eq_getElem h)
theorem slc_eq {l : List α} {lo hi : Int} (h : 0 ≤ lo ∧ lo ≤ hi ∧ hi ≤ (l.length : Int)) : slc l lo hi = some ((l.drop lo.toNat).take (hi.toNat - lo.toNat)) := by unfold slc; rw [if_pos h]
end
theorem wr_succ {i : Nat} (h : i < 4294967296) : wr ((i : Int) + 1) = ((i + 1 : Nat) : Int) := by rw [wr_id (by omega) (by omega)]; omega
end Go.Px

set_option linter.unusedVariables false
namespace Go.Px
open Go Go.Sh
section
variable {ρ α : Type}
theorem scan_go {f : Nat → Int → Option (Ex Unit ρ)} {len : Nat} {good : Nat → Prop}
    (hs : ∀ n i : Nat, i < len → good i → f (n + 1) (i : Int) = f n ((i + 1 : Nat) : Int))
    (he : ∀ n, f (n + 1) (len : Int) = some (.go ())) : ∀ d n i : Nat, i + d = len → d < n → (∀ j, i ≤ j → j < len → good j) → f n (i : Int) = some (.go ())
  | d, 0, i, _, h, _ => absurd h (by omega)
  | 0, n + 1, i, hi, _, _ => by
    obtain rfl : i = len := by omega
    exact he n
  | d + 1, n + 1, i, hi, h, hg => by
    rw [hs n i (by omega) (hg i (by omega) (by omega))]
    exact scan_go hs he d n (i + 1) (by omega) (by omega) (fun j h1 h2 => hg j (by omega) h2)
theorem scan_rt {f : Nat → Int → Option (Ex Unit ρ)} {len : Nat} {good : Nat → Prop} {r : ρ}
    (hs : ∀ n i : Nat, i < len → good i → f (n + 1) (i : Int) = f n ((i + 1 : Nat) : Int))
    (hf : ∀ n i : Nat, i < len → ¬ good i → f (n + 1) (i : Int) = some (.rt r)) : ∀ d n i : Nat, i + d = len → d < n → (∃ j, i ≤ j ∧ j < len ∧ ¬ good j) → f n (i : Int) = some (.rt r)
  | d, 0, i, _, h, _ => absurd h (by omega)
  | 0, n + 1, i, hi, _, hg => by
    obtain ⟨j, h1, h2, _⟩ := hg
    omega
  | d + 1, n + 1, i, hi, h, hg => by
    rcases Classical.em (good i) with hh | hh
    · rw [hs n i (by omega) hh]
      refine scan_rt hs hf d n (i + 1) (by omega) (by omega) ?_
      obtain ⟨j, h1, h2, h3⟩ := hg
      refine ⟨j, ?_, h2, h3⟩
      rcases Nat.lt_or_ge i j with hl | hl
      · omega
      · exact absurd (show good j from by rw [show j = i by omega]; exact hh) h3
    · exact hf n i (by omega) hh
/-- A scan that starts at 0: it goes through when all are good, else it hands back `r`. -/
theorem scan {f : Nat → Int → Option (Ex Unit ρ)} {len : Nat} (good : Nat → Prop) {r : ρ}
    (hs : ∀ n i : Nat, i < len → good i → f (n + 1) (i : Int) = f n ((i + 1 : Nat) : Int))
    (hf : ∀ n i : Nat, i < len → ¬ good i → f (n + 1) (i : Int) = some (.rt r))
    (he : ∀ n, f (n + 1) (len : Int) = some (.go ())) {k : Nat} (hk : len < k) :
    ((∀ j, j < len → good j) ∧ f k 0 = some (.go ())) ∨ ((¬ ∀ j, j < len → good j) ∧ f k 0 = some (.rt r)) := by
  rcases Classical.em (∀ j, j < len → good j) with h | h
  · exact .inl ⟨h, scan_go hs he len k 0 (by omega) hk fun j _ h2 => h j h2⟩
  · refine .inr ⟨h, scan_rt hs hf len k 0 (by omega) hk ?_⟩
    obtain ⟨j, hj⟩ := Classical.not_forall.1 h
    obtain ⟨h1, h2⟩ := Classical.not_imp.1 hj
    exact ⟨j, by omega, h1, h2⟩
/-- A loop that gathers `g i` for each `i` with `p i`. -/
theorem gather {f : Nat → List α → Int → Option (List α)} {len c : Nat} (p : Nat → Bool) (g : Nat → α)
    (hs : ∀ (n i : Nat) v, i < len → v.length ≤ c + i → f (n + 1) v (i : Int) = f n (if p i then v ++ [g i] else v) ((i + 1 : Nat) : Int))
    (he : ∀ n v, f (n + 1) v (len : Int) = some v) : ∀ (d n i : Nat) v, i + d = len → d < n → v.length ≤ c + i → f n v (i : Int) = some (v ++ ((List.range' i d).filter p).map g)
  | d, 0, i, v, _, h, _ => absurd h (by omega)
  | 0, n + 1, i, v, hi, _, _ => by
    obtain rfl : i = len := by omega
    rw [he]
    simp
  | d + 1, n + 1, i, v, hi, h, hv => by
    rw [hs n i v (by omega) hv]
    have := gather p g hs he d n (i + 1) (if p i then v ++ [g i] else v) (by omega) (by omega) (by split <;> (try rw [List.length_append, List.length_singleton]) <;> omega)
    rw [this, List.range'_succ, List.filter_cons]
    cases p i <;> simp
theorem gather0 {f : Nat → List α → Int → Option (List α)} {len c : Nat} (p : Nat → Bool) (g : Nat → α)
    (hs : ∀ (n i : Nat) v, i < len → v.length ≤ c + i → f (n + 1) v (i : Int) = f n (if p i then v ++ [g i] else v) ((i + 1 : Nat) : Int))
    (he : ∀ n v, f (n + 1) v (len : Int) = some v) {k : Nat} (hk : len < k) (v : List α) (hv : v.length ≤ c) : f k v 0 = some (v ++ ((List.range len).filter p).map g) := by
  rw [List.range_eq_range']
  exact gather p g hs he len k 0 v (by omega) hk (by omega)
/-- A loop that fills a row: item `i` becomes `g i`. -/
theorem fill {f : Nat → List α → Int → Option (List α)} {len : Nat} (g : Nat → α)
    (hs : ∀ (n i : Nat) v, i < len → v.length = len → f (n + 1) v (i : Int) = f n (v.set i (g i)) ((i + 1 : Nat) : Int))
    (he : ∀ n v, v.length = len → f (n + 1) v (len : Int) = some v) : ∀ (d n i : Nat) v, i + d = len → d < n → v.length = len → f n v (i : Int) = some (v.take i ++ (List.range' i d).map g)
  | d, 0, i, v, _, h, _ => absurd h (by omega)
  | 0, n + 1, i, v, hi, _, hv => by
    obtain rfl : i = len := by omega
    rw [he _ _ hv, ← hv]
    simp
  | d + 1, n + 1, i, v, hi, h, hv => by
    rw [hs n i v (by omega) hv, fill g hs he d n (i + 1) (v.set i (g i)) (by omega) (by omega) (by rw [List.length_set, hv]), List.range'_succ]
    congr 1
    rw [List.take_add_one, List.take_set_of_le (by omega), List.getElem?_set_self (by omega)]
    simp
theorem fill0 {f : Nat → List α → Int → Option (List α)} {len : Nat} (g : Nat → α)
    (hs : ∀ (n i : Nat) v, i < len → v.length = len → f (n + 1) v (i : Int) = f n (v.set i (g i)) ((i + 1 : Nat) : Int))
    (he : ∀ n v, v.length = len → f (n + 1) v (len : Int) = some v) {k : Nat} (hk : len < k) (v : List α) (hv : v.length = len) : f k v 0 = some ((List.range len).map g) := by
  rw [List.range_eq_range']
  have := fill g hs he len k 0 v (by omega) hk hv
  rw [List.take_zero, List.nil_append] at this
  exact this
end
theorem wr_pred {i : Nat} (h : 0 < i) (h2 : i < 4294967296) : wr ((i : Int) - 1) = ((i - 1 : Nat) : Int) := by rw [wr_id (by omega) (by omega)]; omega
theorem cNT {α : Type} {a b : α} : cond (!true) a b = b := rfl
theorem cNF {α : Type} {a b : α} : cond (!false) a b = a := rfl
theorem condNT {p : Prop} [Decidable p] {α : Type} {a b : α} (h : p) : cond (!decide p) a b = b := by rw [decide_eq_true h]; rfl
theorem condNF {p : Prop} [Decidable p] {α : Type} {a b : α} (h : ¬ p) : cond (!decide p) a b = a := by rw [decide_eq_false h]; rfl
theorem condAnd {p q : Prop} [Decidable p] [Decidable q] {x : Option Bool} (h : x = some (decide q)) : cond (decide p) x (some false) = some (decide (p ∧ q)) := by
  by_cases hp : p
  · rw [condD hp, h]; simp [hp]
  · rw [condN hp]; simp [hp]
end Go.Px

set_option linter.unusedVariables false
set_option linter.unusedSimpArgs false
namespace Go.Px
open Go Go.Sh
abbrev InP (x a b : Int) : Prop := a ≤ x ∧ x ≤ b
abbrev CoordP (x : Int) : Prop := InP x (-1048576) 1048576
abbrev SeatP (s : Seat) : Prop := InP s.Row 0 999 ∧ CoordP s.X ∧ CoordP s.Y ∧ InP s.Kind 0 2
abbrev LessP (a b : Seat) : Prop := a.Row < b.Row ∨ (a.Row = b.Row ∧ a.X < b.X)
abbrev SeatsP (l : List Seat) : Prop := ∀ j, j < l.length → ∀ s, l[j]? = some s → SeatP s ∧ (0 < j → ∀ r, l[j - 1]? = some r → LessP r s)
abbrev KillsP (l : List Int) (m : Int) : Prop := ∀ j, j < l.length → ∀ s, l[j]? = some s → 0 ≤ s ∧ s < m ∧ (0 < j → ∀ r, l[j - 1]? = some r → r < s)
abbrev PolesP (l : List Pole) : Prop := ∀ j, j < l.length → ∀ s, l[j]? = some s → CoordP s.X ∧ CoordP s.Y ∧ InP s.R 1 1048576
structure MayV (v : Venue) : Prop where
  seats : SeatsP v.Seats
  n0 : 1 ≤ v.Seats.length
  n1 : v.Seats.length ≤ 4096
  gap : InP v.Gap 1 1048576
  radius : InP v.Radius 0 1048576
  kills : KillsP v.Kills v.Seats.length
  k1 : v.Kills.length ≤ 200
  poles : PolesP v.Poles
  p1 : v.Poles.length ≤ 200
open Classical in
noncomputable def mayB (v : Venue) : Bool := decide (MayV v)
open Classical in
theorem mayB_iff {v : Venue} : mayB v = true ↔ MayV v := by unfold mayB; exact decide_eq_true_iff
theorem venue_in_eq (k : Nat) (x a b : Int) : venue_in k x a b = some (decide (InP x a b)) := by
  unfold venue_in
  exact condAnd rfl
theorem ref2_in_eq (k : Nat) (x a b : Int) : ref2_in k x a b = some (decide (InP x a b)) := by
  unfold ref2_in
  exact condAnd rfl
theorem venue_Coord_eq (k : Nat) (x : Int) : venue_Coord k x = some (decide (CoordP x)) := by
  unfold venue_Coord
  rw [bindS (venue_in_eq _ _ _ _)]
theorem ref2_coord_eq (k : Nat) (x : Int) : ref2_coord k x = some (decide (CoordP x)) := by
  unfold ref2_coord
  rw [bindS (ref2_in_eq _ _ _ _)]
theorem ref6_coord_eq (k : Nat) (x : Int) : ref6_coord k x = some (decide (CoordP x)) := by
  unfold ref6_coord
  exact condAnd rfl
theorem venue_Row_eq (k : Nat) (x : Int) : venue_Row k x = some (decide (InP x 0 999)) := by
  unfold venue_Row
  rw [bindS (venue_in_eq _ _ _ _)]
theorem venue_Reach_eq (k : Nat) (x : Int) : venue_Reach k x = some (decide (InP x 1 1048576)) := by
  unfold venue_Reach
  rw [bindS (venue_in_eq _ _ _ _)]
theorem venue_seat_eq (k : Nat) (s : Seat) : venue_seat k s = some (decide (SeatP s)) := by
  unfold venue_seat
  have h : (Option.bind (venue_Row k s.Row) fun r2 => cond r2 (Option.bind (venue_Coord k s.X) fun r5 => cond r5 (Option.bind (venue_Coord k s.Y) fun r8 => some r8) (some false)) (some false)) = some (decide (InP s.Row 0 999 ∧ CoordP s.X ∧ CoordP s.Y)) := by
    rw [bindS (venue_Row_eq _ _)]
    refine condAnd ?_
    rw [bindS (venue_Coord_eq _ _)]
    refine condAnd ?_
    rw [bindS (venue_Coord_eq _ _)]
  rw [h]
  by_cases h0 : s.Kind = 0
  · rw [condD h0]
    congr 1
    rw [decide_eq_decide]
    omega
  rw [condN h0]
  by_cases h1 : s.Kind = 1
  · rw [condD h1]
    congr 1
    rw [decide_eq_decide]
    omega
  rw [condN h1]
  by_cases h2 : s.Kind = 2
  · rw [condD h2]
    congr 1
    rw [decide_eq_decide]
    omega
  rw [condN h2]
  congr 1
  symm
  rw [decide_eq_false_iff_not]
  omega
theorem venue_Less_eq (k : Nat) (a b : Seat) : venue_Less k a b = some (decide (LessP a b)) := by
  unfold venue_Less
  by_cases h : a.Row < b.Row
  · rw [condD h, decide_eq_true (.inl h)]
  · rw [condN h, condAnd rfl]
    congr 1
    rw [decide_eq_decide]
    omega
theorem ref2_Less_eq (k : Nat) (a b : Seat) : ref2_Less k a b = some (decide (LessP a b)) := by
  unfold ref2_Less
  by_cases h : a.Row < b.Row
  · rw [condD h, decide_eq_true (.inl h)]
  · rw [condN h, condAnd rfl]
    congr 1
    rw [decide_eq_decide]
    omega
theorem some_get {α : Type} {l : List α} {i : Nat} (h : i < l.length) : ∃ s, l[i]? = some s ∧ idx l (i : Int) = some s := ⟨l[i], List.getElem?_eq_getElem h, idx_nat h⟩
theorem venue_seats_eq (k : Nat) (l : List Seat) (hl : l.length < k) (hb : l.length ≤ 4294967295) : ∃ b, venue_seats k l = some b ∧ (b = true ↔ SeatsP l ∧ 1 ≤ l.length ∧ l.length ≤ 4096) := by
  unfold venue_seats
  have hs : ∀ n i : Nat, i < l.length → (∀ s, l[i]? = some s → SeatP s ∧ (0 < i → ∀ r, l[i - 1]? = some r → LessP r s)) → venue_seats_l0 k l (n + 1) (i : Int) = venue_seats_l0 k l n ((i + 1 : Nat) : Int) := by
    intro n i hi hg
    obtain ⟨s, e1, e2⟩ := some_get hi
    obtain ⟨g1, g2⟩ := hg s e1
    rw [venue_seats_l0, condD (by omega), bindS e2, bindS (venue_seat_eq _ _), condNT g1, wr_succ (by omega)]
    by_cases h0 : 0 < i
    · obtain ⟨r, f1, f2⟩ := some_get (l := l) (i := i - 1) (by omega)
      rw [condD (by omega), wr_pred h0 (by omega), bindS f2, bindS (venue_Less_eq _ _ _), condNT (g2 h0 r f1)]
    · rw [condN (by omega)]
  have hf : ∀ n i : Nat, i < l.length → ¬ (∀ s, l[i]? = some s → SeatP s ∧ (0 < i → ∀ r, l[i - 1]? = some r → LessP r s)) → venue_seats_l0 k l (n + 1) (i : Int) = some (.rt false) := by
    intro n i hi hg
    obtain ⟨s, e1, e2⟩ := some_get hi
    rw [venue_seats_l0, condD (by omega), bindS e2, bindS (venue_seat_eq _ _)]
    by_cases g1 : SeatP s
    · rw [condNT g1]
      by_cases h0 : 0 < i
      · obtain ⟨r, f1, f2⟩ := some_get (l := l) (i := i - 1) (by omega)
        rw [condD (by omega), wr_pred h0 (by omega), bindS f2, bindS (venue_Less_eq _ _ _), condNF]
        intro hh
        refine hg fun s' e' => ?_
        rw [e1] at e'
        cases e'
        refine ⟨g1, fun _ r' f' => ?_⟩
        rw [f1] at f'
        cases f'
        exact hh
      · refine absurd (fun s' e' => ?_) hg
        rw [e1] at e'
        cases e'
        exact ⟨g1, fun h => absurd h h0⟩
    · rw [condNF g1]
  have he : ∀ n, venue_seats_l0 k l (n + 1) (l.length : Int) = some (.go ()) := fun n => by rw [venue_seats_l0, condN (by omega)]
  rcases scan _ hs hf he hl with ⟨g, e⟩ | ⟨g, e⟩
  · rw [bindS e, elim_go, condAnd rfl]
    refine ⟨_, rfl, ?_⟩
    rw [decide_eq_true_iff]
    constructor
    · rintro ⟨a, b⟩; exact ⟨g, by omega, by omega⟩
    · rintro ⟨_, a, b⟩; omega
  · rw [bindS e, elim_rt]
    exact ⟨_, rfl, by simp; exact fun h => absurd h g⟩
theorem ref2_seats_eq (k : Nat) (l : List Seat) (hl : l.length < k) (hb : l.length ≤ 4294967295) : ∃ b, ref2_seats k l = some b ∧ (b = true ↔ SeatsP l ∧ 1 ≤ l.length ∧ l.length ≤ 4096) := by
  unfold ref2_seats
  have hs : ∀ n i : Nat, i < l.length → (∀ s, l[i]? = some s → SeatP s ∧ (0 < i → ∀ r, l[i - 1]? = some r → LessP r s)) → ref2_seats_l0 k l (n + 1) (i : Int) = ref2_seats_l0 k l n ((i + 1 : Nat) : Int) := by
    intro n i hi hg
    obtain ⟨s, e1, e2⟩ := some_get hi
    obtain ⟨⟨g1, g3, g4, g5⟩, g2⟩ := hg s e1
    rw [ref2_seats_l0, condD (by omega), bindS e2, bindS (ref2_in_eq _ _ _ _), condNT g1, bindS (ref2_coord_eq _ _), condNT g3, bindS (ref2_coord_eq _ _), condNT g4, bindS (ref2_in_eq _ _ _ _), condNT g5, wr_succ (by omega)]
    by_cases h0 : 0 < i
    · obtain ⟨r, f1, f2⟩ := some_get (l := l) (i := i - 1) (by omega)
      rw [condD (by omega), wr_pred h0 (by omega), bindS f2, bindS (ref2_Less_eq _ _ _), condNT (g2 h0 r f1)]
    · rw [condN (by omega)]
  have hf : ∀ n i : Nat, i < l.length → ¬ (∀ s, l[i]? = some s → SeatP s ∧ (0 < i → ∀ r, l[i - 1]? = some r → LessP r s)) → ref2_seats_l0 k l (n + 1) (i : Int) = some (.rt false) := by
    intro n i hi hg
    obtain ⟨s, e1, e2⟩ := some_get hi
    rw [ref2_seats_l0, condD (by omega), bindS e2, bindS (ref2_in_eq _ _ _ _), bindS (ref2_coord_eq _ _), bindS (ref2_coord_eq _ _), bindS (ref2_in_eq _ _ _ _)]
    by_cases g1 : InP s.Row 0 999
    · rw [condNT g1]
      by_cases g3 : CoordP s.X
      · rw [condNT g3]
        by_cases g4 : CoordP s.Y
        · rw [condNT g4]
          by_cases g5 : InP s.Kind 0 2
          · rw [condNT g5]
            by_cases h0 : 0 < i
            · obtain ⟨r, f1, f2⟩ := some_get (l := l) (i := i - 1) (by omega)
              rw [condD (by omega), wr_pred h0 (by omega), bindS f2, bindS (ref2_Less_eq _ _ _), condNF]
              intro hh
              refine hg fun s' e' => ?_
              rw [e1] at e'
              cases e'
              refine ⟨⟨g1, g3, g4, g5⟩, fun _ r' f' => ?_⟩
              rw [f1] at f'
              cases f'
              exact hh
            · refine absurd (fun s' e' => ?_) hg
              rw [e1] at e'
              cases e'
              exact ⟨⟨g1, g3, g4, g5⟩, fun h => absurd h h0⟩
          · rw [condNF g5]
        · rw [condNF g4]
      · rw [condNF g3]
    · rw [condNF g1]
  have he : ∀ n, ref2_seats_l0 k l (n + 1) (l.length : Int) = some (.go ()) := fun n => by rw [ref2_seats_l0, condN (by omega)]
  rcases scan _ hs hf he hl with ⟨g, e⟩ | ⟨g, e⟩
  · rw [bindS e, elim_go, condAnd rfl]
    refine ⟨_, rfl, ?_⟩
    rw [decide_eq_true_iff]
    constructor
    · rintro ⟨a, b⟩; exact ⟨g, by omega, by omega⟩
    · rintro ⟨_, a, b⟩; omega
  · rw [bindS e, elim_rt]
    exact ⟨_, rfl, by simp; exact fun h => absurd h g⟩
theorem venue_kills_eq (k : Nat) (l : List Int) (m : Int) (hl : l.length < k) (hb : l.length ≤ 4294967295) : ∃ b, venue_kills k l m = some b ∧ (b = true ↔ KillsP l m ∧ l.length ≤ 200) := by
  unfold venue_kills
  have hs : ∀ n i : Nat, i < l.length → (∀ s, l[i]? = some s → 0 ≤ s ∧ s < m ∧ (0 < i → ∀ r, l[i - 1]? = some r → r < s)) → venue_kills_l0 k l m (n + 1) (i : Int) = venue_kills_l0 k l m n ((i + 1 : Nat) : Int) := by
    intro n i hi hg
    obtain ⟨s, e1, e2⟩ := some_get hi
    obtain ⟨g1, g2, g3⟩ := hg s e1
    rw [venue_kills_l0, condD (by omega), bindS e2, condN (by omega), condN (by omega), wr_succ (by omega)]
    by_cases h0 : 0 < i
    · obtain ⟨r, f1, f2⟩ := some_get (l := l) (i := i - 1) (by omega)
      have := g3 h0 r f1
      rw [condD (by omega), wr_pred h0 (by omega), bindS f2, condN (by omega)]
    · rw [condN (by omega)]
  have hf : ∀ n i : Nat, i < l.length → ¬ (∀ s, l[i]? = some s → 0 ≤ s ∧ s < m ∧ (0 < i → ∀ r, l[i - 1]? = some r → r < s)) → venue_kills_l0 k l m (n + 1) (i : Int) = some (.rt false) := by
    intro n i hi hg
    obtain ⟨s, e1, e2⟩ := some_get hi
    rw [venue_kills_l0, condD (by omega), bindS e2]
    by_cases g1 : s < 0
    · rw [condD g1]
    rw [condN g1]
    by_cases g2 : m ≤ s
    · rw [condD g2]
    rw [condN g2]
    by_cases h0 : 0 < i
    · obtain ⟨r, f1, f2⟩ := some_get (l := l) (i := i - 1) (by omega)
      rw [condD (by omega), wr_pred h0 (by omega), bindS f2, condD]
      apply Classical.byContradiction
      intro hh
      refine hg fun s' e' => ?_
      rw [e1] at e'
      cases e'
      refine ⟨by omega, by omega, fun _ r' f' => ?_⟩
      rw [f1] at f'
      cases f'
      omega
    · refine absurd (fun s' e' => ?_) hg
      rw [e1] at e'
      cases e'
      exact ⟨by omega, by omega, fun h => absurd h h0⟩
  have he : ∀ n, venue_kills_l0 k l m (n + 1) (l.length : Int) = some (.go ()) := fun n => by rw [venue_kills_l0, condN (by omega)]
  rcases scan _ hs hf he hl with ⟨g, e⟩ | ⟨g, e⟩
  · rw [bindS e, elim_go]
    refine ⟨_, rfl, ?_⟩
    rw [decide_eq_true_iff]
    constructor
    · intro a; exact ⟨g, by omega⟩
    · rintro ⟨_, a⟩; omega
  · rw [bindS e, elim_rt]
    exact ⟨_, rfl, by simp; exact fun h => absurd h g⟩
theorem ref2_kills_eq (k : Nat) (l : List Int) (m : Int) (hl : l.length < k) (hb : l.length ≤ 4294967295) (hm : 0 ≤ m ∧ m ≤ 4294967295) : ∃ b, ref2_kills k l m = some b ∧ (b = true ↔ KillsP l m ∧ l.length ≤ 200) := by
  unfold ref2_kills
  have hs : ∀ n i : Nat, i < l.length → (∀ s, l[i]? = some s → 0 ≤ s ∧ s < m ∧ (0 < i → ∀ r, l[i - 1]? = some r → r < s)) → ref2_kills_l0 k l m (n + 1) (i : Int) = ref2_kills_l0 k l m n ((i + 1 : Nat) : Int) := by
    intro n i hi hg
    obtain ⟨s, e1, e2⟩ := some_get hi
    obtain ⟨g1, g2, g3⟩ := hg s e1
    rw [ref2_kills_l0, condD (by omega), bindS e2, bindS (ref2_in_eq _ _ _ _), wr_id (x := m - 1) (by omega) (by omega), condNT ⟨by omega, by omega⟩, wr_succ (by omega)]
    by_cases h0 : 0 < i
    · obtain ⟨r, f1, f2⟩ := some_get (l := l) (i := i - 1) (by omega)
      have := g3 h0 r f1
      rw [condD (by omega), bindS e2, wr_pred h0 (by omega), bindS f2, condN (by omega)]
    · rw [condN (by omega)]
  have hf : ∀ n i : Nat, i < l.length → ¬ (∀ s, l[i]? = some s → 0 ≤ s ∧ s < m ∧ (0 < i → ∀ r, l[i - 1]? = some r → r < s)) → ref2_kills_l0 k l m (n + 1) (i : Int) = some (.rt false) := by
    intro n i hi hg
    obtain ⟨s, e1, e2⟩ := some_get hi
    rw [ref2_kills_l0, condD (by omega), bindS e2, bindS (ref2_in_eq _ _ _ _), wr_id (x := m - 1) (by omega) (by omega)]
    by_cases g1 : InP s 0 (m - 1)
    · rw [condNT g1]
      by_cases h0 : 0 < i
      · obtain ⟨r, f1, f2⟩ := some_get (l := l) (i := i - 1) (by omega)
        rw [condD (by omega), bindS e2, wr_pred h0 (by omega), bindS f2, condD]
        apply Classical.byContradiction
        intro hh
        refine hg fun s' e' => ?_
        rw [e1] at e'
        cases e'
        refine ⟨by omega, by omega, fun _ r' f' => ?_⟩
        rw [f1] at f'
        cases f'
        omega
      · refine absurd (fun s' e' => ?_) hg
        rw [e1] at e'
        cases e'
        exact ⟨by omega, by omega, fun h => absurd h h0⟩
    · rw [condNF g1]
  have he : ∀ n, ref2_kills_l0 k l m (n + 1) (l.length : Int) = some (.go ()) := fun n => by rw [ref2_kills_l0, condN (by omega)]
  rcases scan _ hs hf he hl with ⟨g, e⟩ | ⟨g, e⟩
  · rw [bindS e, elim_go]
    refine ⟨_, rfl, ?_⟩
    rw [decide_eq_true_iff]
    constructor
    · intro a; exact ⟨g, by omega⟩
    · rintro ⟨_, a⟩; omega
  · rw [bindS e, elim_rt]
    exact ⟨_, rfl, by simp; exact fun h => absurd h g⟩
theorem venue_poles_eq (k : Nat) (l : List Pole) (hl : l.length < k) (hb : l.length ≤ 4294967295) : ∃ b, venue_poles k l = some b ∧ (b = true ↔ PolesP l ∧ l.length ≤ 200) := by
  unfold venue_poles
  have hs : ∀ n i : Nat, i < l.length → (∀ s, l[i]? = some s → CoordP s.X ∧ CoordP s.Y ∧ InP s.R 1 1048576) → venue_poles_l0 k l (n + 1) (i : Int) = venue_poles_l0 k l n ((i + 1 : Nat) : Int) := by
    intro n i hi hg
    obtain ⟨s, e1, e2⟩ := some_get hi
    obtain ⟨g1, g2, g3⟩ := hg s e1
    rw [venue_poles_l0, condD (by omega), bindS e2, bindS (venue_Coord_eq _ _), condNT g1, bindS (venue_Coord_eq _ _), condNT g2, bindS (venue_Reach_eq _ _), condNT g3, wr_succ (by omega)]
  have hf : ∀ n i : Nat, i < l.length → ¬ (∀ s, l[i]? = some s → CoordP s.X ∧ CoordP s.Y ∧ InP s.R 1 1048576) → venue_poles_l0 k l (n + 1) (i : Int) = some (.rt false) := by
    intro n i hi hg
    obtain ⟨s, e1, e2⟩ := some_get hi
    rw [venue_poles_l0, condD (by omega), bindS e2, bindS (venue_Coord_eq _ _), bindS (venue_Coord_eq _ _), bindS (venue_Reach_eq _ _)]
    by_cases g1 : CoordP s.X
    · by_cases g2 : CoordP s.Y
      · by_cases g3 : InP s.R 1 1048576
        · refine absurd (fun s' e' => ?_) hg
          rw [e1] at e'
          cases e'
          exact ⟨g1, g2, g3⟩
        · rw [condNT g1, condNT g2, condNF g3]
      · rw [condNT g1, condNF g2]
    · rw [condNF g1]
  have he : ∀ n, venue_poles_l0 k l (n + 1) (l.length : Int) = some (.go ()) := fun n => by rw [venue_poles_l0, condN (by omega)]
  rcases scan _ hs hf he hl with ⟨g, e⟩ | ⟨g, e⟩
  · rw [bindS e, elim_go]
    refine ⟨_, rfl, ?_⟩
    rw [decide_eq_true_iff]
    constructor
    · intro a; exact ⟨g, by omega⟩
    · rintro ⟨_, a⟩; omega
  · rw [bindS e, elim_rt]
    exact ⟨_, rfl, by simp; exact fun h => absurd h g⟩
theorem ref2_poles_eq (k : Nat) (l : List Pole) (hl : l.length < k) (hb : l.length ≤ 4294967295) : ∃ b, ref2_poles k l = some b ∧ (b = true ↔ PolesP l ∧ l.length ≤ 200) := by
  unfold ref2_poles
  have hs : ∀ n i : Nat, i < l.length → (∀ s, l[i]? = some s → CoordP s.X ∧ CoordP s.Y ∧ InP s.R 1 1048576) → ref2_poles_l0 k l (n + 1) (i : Int) = ref2_poles_l0 k l n ((i + 1 : Nat) : Int) := by
    intro n i hi hg
    obtain ⟨s, e1, e2⟩ := some_get hi
    obtain ⟨g1, g2, g3⟩ := hg s e1
    rw [ref2_poles_l0, condD (by omega), bindS e2, bindS (ref2_coord_eq _ _), condNT g1, bindS e2, bindS (ref2_coord_eq _ _), condNT g2, bindS e2, bindS (ref2_in_eq _ _ _ _), condNT g3, wr_succ (by omega)]
  have hf : ∀ n i : Nat, i < l.length → ¬ (∀ s, l[i]? = some s → CoordP s.X ∧ CoordP s.Y ∧ InP s.R 1 1048576) → ref2_poles_l0 k l (n + 1) (i : Int) = some (.rt false) := by
    intro n i hi hg
    obtain ⟨s, e1, e2⟩ := some_get hi
    rw [ref2_poles_l0, condD (by omega), bindS e2, bindS (ref2_coord_eq _ _), bindS e2, bindS (ref2_coord_eq _ _), bindS e2, bindS (ref2_in_eq _ _ _ _)]
    by_cases g1 : CoordP s.X
    · by_cases g2 : CoordP s.Y
      · by_cases g3 : InP s.R 1 1048576
        · refine absurd (fun s' e' => ?_) hg
          rw [e1] at e'
          cases e'
          exact ⟨g1, g2, g3⟩
        · rw [condNT g1, condNT g2, condNF g3]
      · rw [condNT g1, condNF g2]
    · rw [condNF g1]
  have he : ∀ n, ref2_poles_l0 k l (n + 1) (l.length : Int) = some (.go ()) := fun n => by rw [ref2_poles_l0, condN (by omega)]
  rcases scan _ hs hf he hl with ⟨g, e⟩ | ⟨g, e⟩
  · rw [bindS e, elim_go]
    refine ⟨_, rfl, ?_⟩
    rw [decide_eq_true_iff]
    constructor
    · intro a; exact ⟨g, by omega⟩
    · rintro ⟨_, a⟩; omega
  · rw [bindS e, elim_rt]
    exact ⟨_, rfl, by simp; exact fun h => absurd h g⟩
theorem notT {b : Bool} {p : Prop} (h : b = true ↔ p) : (p ∧ b = true) ∨ (¬ p ∧ b = false) := by
  cases b
  · exact .inr ⟨fun hp => absurd (h.2 hp) (by simp), rfl⟩
  · exact .inl ⟨h.1 rfl, rfl⟩
theorem may_no {v : Venue} (h : ¬ MayV v) : mayB v = false := by
  cases e : mayB v
  · rfl
  · exact absurd (mayB_iff.1 e) h
theorem venue_May_eq (k : Nat) (v : Venue) (h1 : v.Seats.length < k) (h2 : v.Kills.length < k) (h3 : v.Poles.length < k) (hk : k ≤ 4294967295) : venue_May k v = some (mayB v) := by
  unfold venue_May venue_Wrong
  obtain ⟨b1, e1, g1⟩ := venue_seats_eq k v.Seats h1 (by omega)
  obtain ⟨b2, e2, g2⟩ := venue_kills_eq k v.Kills (v.Seats.length : Int) h2 (by omega)
  obtain ⟨b3, e3, g3⟩ := venue_poles_eq k v.Poles h3 (by omega)
  rw [bindS e1, bindS (venue_Reach_eq _ _), bindS (venue_in_eq _ _ _ _), bindS e2, bindS e3]
  rcases notT g1 with ⟨p1, rfl⟩ | ⟨p1, rfl⟩
  · by_cases p4 : InP v.Gap 1 1048576
    · by_cases p5 : InP v.Radius 0 1048576
      · rcases notT g2 with ⟨p2, rfl⟩ | ⟨p2, rfl⟩
        · rcases notT g3 with ⟨p3, rfl⟩ | ⟨p3, rfl⟩
          · rw [mayB_iff.2 ⟨p1.1, p1.2.1, p1.2.2, p4, p5, p2.1, p2.2, p3.1, p3.2⟩, condNT p4, condNT p5]
            rfl
          · rw [may_no (fun h => p3 ⟨h.poles, h.p1⟩), condNT p4, condNT p5]
            rfl
        · rw [may_no (fun h => p2 ⟨h.kills, h.k1⟩), condNT p4, condNT p5]
          rfl
      · rw [may_no (fun h => p5 h.radius), condNT p4, condNF p5]
        rfl
    · rw [may_no (fun h => p4 h.gap), condNF p4]
      rfl
  · rw [may_no (fun h => p1 ⟨h.seats, h.n0, h.n1⟩)]
    rfl
theorem ref2_May_eq (k : Nat) (v : Venue) (h1 : v.Seats.length < k) (h2 : v.Kills.length < k) (h3 : v.Poles.length < k) (hk : k ≤ 4294967295) : ref2_May k v = some (mayB v) := by
  unfold ref2_May ref2_Wrong
  obtain ⟨b1, e1, g1⟩ := ref2_seats_eq k v.Seats h1 (by omega)
  obtain ⟨b2, e2, g2⟩ := ref2_kills_eq k v.Kills (v.Seats.length : Int) h2 (by omega) (by omega)
  obtain ⟨b3, e3, g3⟩ := ref2_poles_eq k v.Poles h3 (by omega)
  rw [bindS e1, bindS (ref2_in_eq _ _ _ _), bindS (ref2_in_eq _ _ _ _), bindS e2, bindS e3]
  rcases notT g1 with ⟨p1, rfl⟩ | ⟨p1, rfl⟩
  · by_cases p4 : InP v.Gap 1 1048576
    · by_cases p5 : InP v.Radius 0 1048576
      · rcases notT g2 with ⟨p2, rfl⟩ | ⟨p2, rfl⟩
        · rcases notT g3 with ⟨p3, rfl⟩ | ⟨p3, rfl⟩
          · rw [mayB_iff.2 ⟨p1.1, p1.2.1, p1.2.2, p4, p5, p2.1, p2.2, p3.1, p3.2⟩, condNT p4, condNT p5]
            rfl
          · rw [may_no (fun h => p3 ⟨h.poles, h.p1⟩), condNT p4, condNT p5]
            rfl
        · rw [may_no (fun h => p2 ⟨h.kills, h.k1⟩), condNT p4, condNT p5]
          rfl
      · rw [may_no (fun h => p5 h.radius), condNT p4, condNF p5]
        rfl
    · rw [may_no (fun h => p4 h.gap), condNF p4]
      rfl
  · rw [may_no (fun h => p1 ⟨h.seats, h.n0, h.n1⟩)]
    rfl
end Go.Px

set_option linter.unusedVariables false
set_option linter.unusedSimpArgs false
namespace Go.Px
open Go Go.Sh
theorem snoc_get {α : Type} {l : List α} {x s : α} {j : Nat} (h : (l ++ [x])[j]? = some s) : (j < l.length ∧ l[j]? = some s) ∨ (j = l.length ∧ s = x) := by
  rcases Nat.lt_or_ge j l.length with hl | hl
  · rw [List.getElem?_append_left hl] at h
    exact .inl ⟨hl, h⟩
  · rw [List.getElem?_append_right hl] at h
    rcases Nat.eq_or_lt_of_le hl with e | hl
    · rw [← e, Nat.sub_self] at h
      simp at h
      exact .inr ⟨e.symm, h.symm⟩
    · rw [List.getElem?_eq_none (by simp; omega)] at h
      cases h
theorem SeatsP.snoc {l : List Seat} {x : Seat} (h : SeatsP l) (hx : SeatP x) (hl : ∀ r, l[l.length - 1]? = some r → LessP r x) : SeatsP (l ++ [x]) := by
  intro j hj s hs
  rcases snoc_get hs with ⟨h1, h2⟩ | ⟨h1, rfl⟩
  · refine ⟨(h j h1 s h2).1, fun h0 r hr => (h j h1 s h2).2 h0 r ?_⟩
    rcases snoc_get hr with ⟨_, hr⟩ | ⟨e, _⟩
    · exact hr
    · omega
  · refine ⟨hx, fun h0 r hr => ?_⟩
    rcases snoc_get hr with ⟨_, hr⟩ | ⟨e, _⟩
    · rw [h1] at hr
      exact hl r hr
    · omega
theorem KillsP.snoc {l : List Int} {x m : Int} (h : KillsP l x) (h0 : 0 ≤ x) (hx : x < m) : KillsP (l ++ [x]) m := by
  intro j hj s hs
  rcases snoc_get hs with ⟨h1, h2⟩ | ⟨h1, rfl⟩
  · obtain ⟨a, b, c⟩ := h j h1 s h2
    refine ⟨a, by omega, fun h0 r hr => c h0 r ?_⟩
    rcases snoc_get hr with ⟨_, hr⟩ | ⟨e, _⟩
    · exact hr
    · omega
  · refine ⟨h0, hx, fun h0 r hr => ?_⟩
    rcases snoc_get hr with ⟨hl, hr⟩ | ⟨e, _⟩
    · exact (h _ hl r hr).2.1
    · omega
theorem KillsP.mono {l : List Int} {x m : Int} (h : KillsP l x) (hx : x ≤ m) : KillsP l m := fun j hj s hs => by
  obtain ⟨a, b, c⟩ := h j hj s hs
  exact ⟨a, by omega, c⟩
theorem PolesP.snoc {l : List Pole} {x : Pole} (h : PolesP l) (hx : CoordP x.X ∧ CoordP x.Y ∧ InP x.R 1 1048576) : PolesP (l ++ [x]) := by
  intro j hj s hs
  rcases snoc_get hs with ⟨h1, h2⟩ | ⟨h1, rfl⟩
  · exact h j h1 s h2
  · exact hx
structure MkI (S : List Seat) (rad : Int) (K : List Int) (P : List Pole) (row x : Int) (i : Nat) : Prop where
  len : S.length = i + 1
  seats : SeatsP S
  last : ∀ r, S[S.length - 1]? = some r → r.Row = row ∧ r.X = x
  r0 : 0 ≤ row
  r1 : row ≤ i
  x0 : 0 ≤ x
  x1 : x ≤ 15 * (i : Int)
  rad0 : InP rad 0 24
  kills : KillsP K S.length
  kl : K.length ≤ S.length
  poles : PolesP P
  pl : P.length ≤ S.length
structure MkF (m : Nat) (o : List Seat × Int × List Int × List Pole) : Prop where
  seats : SeatsP o.1
  n0 : 1 ≤ o.1.length
  n1 : o.1.length ≤ m
  rad : InP o.2.1 0 24
  kills : KillsP o.2.2.1 o.1.length
  kl : o.2.2.1.length ≤ m
  poles : PolesP o.2.2.2
  pl : o.2.2.2.length ≤ m
theorem make_l0 (k : Nat) (l : List Int) (m : Nat) (hm : m ≤ 100) : ∀ (n : Nat) S rad K P row x (i : Nat), MkI S rad K P row x i → S.length ≤ m → m - S.length < n → ∃ o, law3_Make_l0 k l (m : Int) n S rad K P row x (i : Int) = some o ∧ MkF m o
  | 0, S, rad, K, P, row, x, i, _, _, h => absurd h (by omega)
  | n + 1, S, rad, K, P, row, x, i, hI, hS, hn => by
    have hlen := hI.len
    have hx0 := hI.x0
    have hx1 := hI.x1
    have hr0 := hI.r0
    have hr1 := hI.r1
    have hkl := hI.kl
    have hpl := hI.pl
    rw [law3_Make_l0]
    by_cases hc : i < l.length ∧ S.length < m
    · rw [condD (by omega), bindS rfl, condD (by omega)]
      obtain ⟨y, _, e2⟩ := some_get hc.1
      rw [bindS e2]
      have h108 : ∃ o : Int × Int, (cond (decide (((IntKind.u64.wrap y).tmod 7) = 0)) (some (wr (row + 1), 0)) (cond (decide (((IntKind.u64.wrap y).tmod 7) = 1)) (some (row, wr ((wr (x + 10)) + 5))) (some (row, wr (x + 10))))) = some o ∧ ((o.1 = row + 1 ∧ o.2 = 0) ∨ (o.1 = row ∧ x < o.2 ∧ o.2 ≤ x + 15)) := by
        rw [wr_id (x := row + 1) (by omega) (by omega), wr_id (x := x + 10) (by omega) (by omega), wr_id (x := x + 10 + 5) (by omega) (by omega)]
        by_cases c1 : (IntKind.u64.wrap y).tmod 7 = 0
        · rw [condD c1]; exact ⟨_, rfl, .inl ⟨rfl, rfl⟩⟩
        rw [condN c1]
        by_cases c2 : (IntKind.u64.wrap y).tmod 7 = 1
        · rw [condD c2]; exact ⟨_, rfl, .inr ⟨rfl, by simp only; omega, by simp only; omega⟩⟩
        · rw [condN c2]; exact ⟨_, rfl, .inr ⟨rfl, by simp only; omega, by simp only; omega⟩⟩
      obtain ⟨o, e108, ho⟩ := h108
      rw [bindS e108]
      have h116 : ∃ kd : Int, (cond (decide (((IntKind.u64.wrap ((IntKind.u64.wrap y).tdiv 7)).tmod 6) = 0)) (some (1 : Int)) (cond (decide (((IntKind.u64.wrap ((IntKind.u64.wrap y).tdiv 7)).tmod 6) = 1)) (some 2) (cond (decide (((IntKind.u64.wrap ((IntKind.u64.wrap y).tdiv 7)).tmod 6) = 2)) (some 2) (some 0)))) = some kd ∧ InP kd 0 2 := by
        generalize (IntKind.u64.wrap ((IntKind.u64.wrap y).tdiv 7)).tmod 6 = q
        by_cases c1 : q = 0
        · rw [condD c1]; exact ⟨_, rfl, by omega⟩
        rw [condN c1]
        by_cases c2 : q = 1
        · rw [condD c2]; exact ⟨_, rfl, by omega⟩
        rw [condN c2]
        by_cases c3 : q = 2
        · rw [condD c3]; exact ⟨_, rfl, by omega⟩
        · rw [condN c3]; exact ⟨_, rfl, by omega⟩
      obtain ⟨kd, e116, hkd⟩ := h116
      have hrow : wr (10 * o.1) = 10 * o.1 := wr_id (by omega) (by omega)
      have hl1 : (S ++ [Seat.mk o.1 o.2 (10 * o.1) kd]).length = S.length + 1 := by simp
      rw [bindS e116, hrow, gdD (by simp only [List.length_singleton]; omega), hl1, show wr (((S.length + 1 : Nat) : Int) - 1) = (S.length : Int) by rw [wr_id (by omega) (by omega)]; omega]
      have h125 : ∃ K', (cond (decide (((IntKind.u64.wrap ((IntKind.u64.wrap y).tdiv 42)).tmod 9) = 0)) (gd (decide (K.length + ([(S.length : Int)]).length ≤ 4294967296)) (some (K ++ [(S.length : Int)]))) (some K)) = some K' ∧ KillsP K' ((S.length + 1 : Nat) : Int) ∧ K'.length ≤ S.length + 1 := by
        generalize (IntKind.u64.wrap ((IntKind.u64.wrap y).tdiv 42)).tmod 9 = q
        by_cases c1 : q = 0
        · rw [condD c1, gdD (by simp only [List.length_singleton]; omega)]
          exact ⟨_, rfl, hI.kills.snoc (by omega) (by omega), by simp; omega⟩
        · rw [condN c1]
          exact ⟨_, rfl, hI.kills.mono (by omega), by omega⟩
      obtain ⟨K', e125, hK, hKl⟩ := h125
      rw [bindS e125]
      obtain ⟨q0, q1⟩ := um ((IntKind.u64.wrap y).tdiv 500) 12 (by omega)
      have h132 : ∃ P', (cond (decide (((IntKind.u64.wrap ((IntKind.u64.wrap y).tdiv 42)).tmod 11) = 1)) (gd (decide (P.length + ([Pole.mk o.2 (10 * o.1) (wr (1 + (wr ((IntKind.u64.wrap ((IntKind.u64.wrap y).tdiv 500)).tmod 12))))]).length ≤ 4294967296)) (some (P ++ [Pole.mk o.2 (10 * o.1) (wr (1 + (wr ((IntKind.u64.wrap ((IntKind.u64.wrap y).tdiv 500)).tmod 12))))]))) (some P)) = some P' ∧ PolesP P' ∧ P'.length ≤ S.length + 1 := by
        generalize (IntKind.u64.wrap ((IntKind.u64.wrap y).tdiv 42)).tmod 11 = q
        rw [wr_id (x := (IntKind.u64.wrap ((IntKind.u64.wrap y).tdiv 500)).tmod 12) (by omega) (by omega), wr_id (x := 1 + (IntKind.u64.wrap ((IntKind.u64.wrap y).tdiv 500)).tmod 12) (by omega) (by omega)]
        by_cases c1 : q = 1
        · rw [condD c1, gdD (by simp only [List.length_singleton]; omega)]
          exact ⟨_, rfl, hI.poles.snoc ⟨by simp only; omega, by simp only; omega, by simp only; omega⟩, by simp; omega⟩
        · rw [condN c1]
          exact ⟨_, rfl, hI.poles, by omega⟩
      obtain ⟨P', e132, hP, hPl⟩ := h132
      rw [bindS e132, wr_succ (by omega)]
      obtain ⟨w0, w1⟩ := um ((IntKind.u64.wrap y).tdiv 300) 25 (by omega)
      have hN : ∀ rad', InP rad' 0 24 → MkI (S ++ [Seat.mk o.1 o.2 (10 * o.1) kd]) rad' K' P' o.1 o.2 (i + 1) := fun rad' hr => by
        refine ⟨by rw [hl1]; omega, hI.seats.snoc ⟨by simp only; omega, by simp only; omega, by simp only; omega, hkd⟩ (fun r hr => ?_), fun r hr => ?_, by omega, by omega, by omega, by omega, hr, by rw [hl1]; exact hK, by rw [hl1]; exact hKl, hP, by rw [hl1]; exact hPl⟩
        · obtain ⟨a, b⟩ := hI.last r hr
          show r.Row < o.1 ∨ (r.Row = o.1 ∧ r.X < o.2)
          omega
        · rw [hl1] at hr
          rcases snoc_get hr with ⟨h1, h2⟩ | ⟨_, rfl⟩
          · omega
          · exact ⟨rfl, rfl⟩
      have hrec : ∀ rad', InP rad' 0 24 → ∃ o', law3_Make_l0 k l (m : Int) n (S ++ [Seat.mk o.1 o.2 (10 * o.1) kd]) rad' K' P' o.1 o.2 ((i + 1 : Nat) : Int) = some o' ∧ MkF m o' := fun rad' hr =>
        make_l0 k l m hm n _ rad' K' P' o.1 o.2 (i + 1) (hN rad' hr) (by rw [hl1]; omega) (by rw [hl1]; omega)
      generalize (IntKind.u64.wrap ((IntKind.u64.wrap y).tdiv 42)).tmod 5 = q
      by_cases c1 : q = 3
      · rw [condD c1, wr_id (x := (IntKind.u64.wrap ((IntKind.u64.wrap y).tdiv 300)).tmod 25) (by omega) (by omega)]
        exact hrec _ (by omega)
      · rw [condN c1]
        exact hrec _ hI.rad0
    · have : (cond (decide ((i : Int) < (l.length : Int))) (some (decide ((S.length : Int) < (m : Int)))) (some false)) = some false := by
        by_cases c1 : i < l.length
        · rw [condD (by omega), decide_eq_false (by omega)]
        · rw [condN (by omega)]
      rw [this, bindS rfl, condF rfl]
      exact ⟨_, rfl, hI.seats, by simp only; omega, hS, hI.rad0, hI.kills, by simp only; omega, hI.poles, by simp only; omega⟩
/-- The venue that Make makes. -/
structure MadeV (m : Nat) (v : Venue) : Prop where
  may : MayV v
  n1 : v.Seats.length ≤ m
  gap : v.Gap = 10
  rad : InP v.Radius 0 24
  kl : v.Kills.length ≤ m
  pl : v.Poles.length ≤ m
theorem law3_Make_eq (k : Nat) (l : List Int) (m : Nat) (h1 : 1 ≤ m) (hm : m ≤ 100) (hk : 100 ≤ k) : ∃ v, law3_Make k l (m : Int) = some v ∧ MadeV m v := by
  unfold law3_Make
  have hI : MkI [Seat.mk 0 0 0 0] 0 [] [] 0 0 0 := by
    refine ⟨rfl, ?_, ?_, by omega, by omega, by omega, by omega, by omega, ?_, by simp, ?_, by simp⟩
    · intro j hj s hs
      have : j = 0 := by simp at hj; omega
      subst this
      simp at hs
      subst hs
      exact ⟨by decide, fun h => absurd h (by omega)⟩
    · intro r hr
      simp at hr
      subst hr
      exact ⟨rfl, rfl⟩
    · intro j hj
      simp at hj
    · intro j hj
      simp at hj
  obtain ⟨o, e, h⟩ := make_l0 k l m hm k _ _ _ _ _ _ 0 hI (by simpa using h1) (by simp; omega)
  have e' : law3_Make_l0 k l (m : Int) k [Seat.mk 0 0 0 0] 0 [] [] 0 0 0 = some o := e
  rw [bindS e']
  have a1 := h.n1
  have a2 := h.kl
  have a3 := h.pl
  have a4 := h.rad
  exact ⟨_, rfl, ⟨h.seats, h.n0, by simp only; omega, by simp only; omega, by simp only; omega, h.kills, by simp only; omega, h.poles, by simp only; omega⟩, h.n1, rfl, h.rad, h.kl, h.pl⟩
end Go.Px

set_option linter.unusedVariables false
set_option linter.unusedSimpArgs false
namespace Go.Px
open Go Go.Sh
/-- A scan that hands back something that holds `R`. -/
theorem scanR {ρ : Type} {f : Nat → Int → Option (Ex Unit ρ)} {len : Nat} (good : Nat → Prop) (R : ρ → Prop)
    (hs : ∀ n i : Nat, i < len → good i → f (n + 1) (i : Int) = f n ((i + 1 : Nat) : Int))
    (hf : ∀ n i : Nat, i < len → ¬ good i → ∃ r, f (n + 1) (i : Int) = some (.rt r) ∧ R r)
    (he : ∀ n, f (n + 1) (len : Int) = some (.go ())) : ∀ d n i : Nat, i + d = len → d < n →
    ((∀ j, i ≤ j → j < len → good j) ∧ f n (i : Int) = some (.go ())) ∨ ((∃ j, i ≤ j ∧ j < len ∧ ¬ good j) ∧ ∃ r, f n (i : Int) = some (.rt r) ∧ R r)
  | d, 0, i, _, h => absurd h (by omega)
  | 0, n + 1, i, hi, _ => by
    obtain rfl : i = len := by omega
    exact .inl ⟨fun j h1 h2 => by omega, he n⟩
  | d + 1, n + 1, i, hi, h => by
    rcases Classical.em (good i) with hh | hh
    · rw [hs n i (by omega) hh]
      rcases scanR good R hs hf he d n (i + 1) (by omega) (by omega) with ⟨a, b⟩ | ⟨⟨j, a1, a2, a3⟩, b⟩
      · refine .inl ⟨fun j h1 h2 => ?_, b⟩
        rcases Nat.lt_or_ge i j with hl | hl
        · exact a j hl h2
        · rw [show j = i by omega]; exact hh
      · exact .inr ⟨⟨j, by omega, a2, a3⟩, b⟩
    · exact .inr ⟨⟨i, by omega, by omega, hh⟩, hf n i (by omega) hh⟩
theorem sq_le {d : Int} (h : InP d (-2097152) 2097152) : 0 ≤ d * d ∧ d * d ≤ 4398046511104 := by
  have : d * d = ((d.natAbs * d.natAbs : Nat) : Int) := (Int.natAbs_mul_self' d).symm
  have h2 : d.natAbs * d.natAbs ≤ 2097152 * 2097152 := Nat.mul_le_mul (by omega) (by omega)
  omega
def far (a b : Seat) : Int := if CoordP a.X ∧ CoordP a.Y ∧ CoordP b.X ∧ CoordP b.Y then (a.X - b.X) * (a.X - b.X) + (a.Y - b.Y) * (a.Y - b.Y) else 0
theorem far_wr {a b : Seat} (h : CoordP a.X ∧ CoordP a.Y ∧ CoordP b.X ∧ CoordP b.Y) : wr ((wr ((wr (a.X - b.X)) * (wr (a.X - b.X)))) + (wr ((wr (a.Y - b.Y)) * (wr (a.Y - b.Y))))) = far a b := by
  unfold far
  rw [if_pos h]
  have h1 := sq_le (d := a.X - b.X) (by omega)
  have h2 := sq_le (d := a.Y - b.Y) (by omega)
  rw [wr_id (x := a.X - b.X) (by omega) (by omega), wr_id (x := a.Y - b.Y) (by omega) (by omega), wr_id (x := (a.X - b.X) * (a.X - b.X)) (by omega) (by omega), wr_id (x := (a.Y - b.Y) * (a.Y - b.Y)) (by omega) (by omega)]
  exact wr_id (by omega) (by omega)
theorem geom_Far_eq (k : Nat) (a b : Seat) (hk : 3 ≤ k) : geom_Far k a b = some (far a b) := by
  obtain ⟨n, rfl⟩ : ∃ n, k = n + 3 := ⟨k - 3, by omega⟩
  unfold geom_Far
  have i0 : idx [a, b] 0 = some a := rfl
  have i1 : idx [a, b] 1 = some b := rfl
  have w1 : wr (0 + 1) = 1 := by decide
  have w2 : wr (1 + 1) = 2 := by decide
  rw [geom_Far_l0, condD (by show (0 : Int) < 2; omega), bindS i0, bindS (venue_Coord_eq _ _), bindS (venue_Coord_eq _ _)]
  by_cases h1 : CoordP a.X
  · rw [condNT h1]
    by_cases h2 : CoordP a.Y
    · rw [condNT h2, w1, geom_Far_l0, condD (by show (1 : Int) < 2; omega), bindS i1, bindS (venue_Coord_eq _ _), bindS (venue_Coord_eq _ _)]
      by_cases h3 : CoordP b.X
      · rw [condNT h3]
        by_cases h4 : CoordP b.Y
        · rw [condNT h4, w2, geom_Far_l0, condN (by show ¬ (2 : Int) < 2; omega), bindS rfl, elim_go, far_wr ⟨h1, h2, h3, h4⟩]
        · rw [condNF h4, bindS rfl, elim_rt, far, if_neg (fun h => h4 h.2.2.2)]
      · rw [condNF h3, bindS rfl, elim_rt, far, if_neg (fun h => h3 h.2.2.1)]
    · rw [condNF h2, bindS rfl, elim_rt, far, if_neg (fun h => h2 h.2.1)]
  · rw [condNF h1, bindS rfl, elim_rt, far, if_neg (fun h => h1 h.1)]
theorem ref6_Far_eq (k : Nat) (a b : Seat) : ref6_Far k a b = some (far a b) := by
  unfold ref6_Far ref6_square
  rw [bindS (ref6_coord_eq _ _), bindS (ref6_coord_eq _ _), bindS (ref6_coord_eq _ _), bindS (ref6_coord_eq _ _)]
  by_cases h1 : CoordP a.X
  · rw [condNT h1]
    by_cases h2 : CoordP a.Y
    · rw [condNT h2]
      by_cases h3 : CoordP b.X
      · rw [condNT h3]
        by_cases h4 : CoordP b.Y
        · rw [condNT h4, bindS rfl, bindS rfl, far_wr ⟨h1, h2, h3, h4⟩]
        · rw [condNF h4, far, if_neg (fun h => h4 h.2.2.2)]
      · rw [condNF h3, far, if_neg (fun h => h3 h.2.2.1)]
    · rw [condNF h2, far, if_neg (fun h => h2 h.2.1)]
  · rw [condNF h1, far, if_neg (fun h => h1 h.1)]
def closeB (a b : Seat) (r : Int) : Bool := decide (far a b < wr (r * r))
theorem geom_Close_eq (k : Nat) (a b : Seat) (r : Int) (hk : 3 ≤ k) : geom_Close k a b r = some (closeB a b r) := by
  unfold geom_Close
  rw [bindS (geom_Far_eq k a b hk)]
  rfl
theorem ref6_square_eq (k : Nat) (r : Int) (h : okI r) : ref6_square k r 0 = some (wr (r * r)) := by
  obtain ⟨h1, h2⟩ := h
  unfold ref6_square
  rw [Int.sub_zero, wr_id (x := r) (by omega) (by omega)]
theorem idx_mem {l : List Int} {x : Int} : (∀ j, j < l.length → ∀ s, l[j]? = some s → s ≠ x) ↔ x ∉ l := by
  constructor
  · intro h hx
    obtain ⟨j, hj, e⟩ := List.getElem_of_mem hx
    exact h j hj x (by rw [List.getElem?_eq_getElem hj, e]) rfl
  · intro h j hj s e hs
    exact h (by rw [← hs]; exact List.mem_of_getElem? e)
theorem slices_Contains_int_eq (k : Nat) (l : List Int) (x : Int) (hl : l.length < k) (hb : l.length ≤ 4294967295) : slices_Contains_int k l x = some (decide (x ∈ l)) := by
  unfold slices_Contains_int slices_Index_int
  have h := scanR (f := fun n i => slices_Index_int_l0 k l x n i) (len := l.length) (fun j => ∀ s, l[j]? = some s → s ≠ x) (fun r => 0 ≤ r)
    (fun n i hi hg => by
      obtain ⟨s, e1, e2⟩ := some_get hi
      have := hg s e1
      show slices_Index_int_l0 k l x (n + 1) (i : Int) = _
      rw [slices_Index_int_l0, condD (by omega), bindS e2, condN (fun h => this h.symm), wr_succ (by omega)])
    (fun n i hi hg => by
      obtain ⟨s, e1, e2⟩ := some_get hi
      refine ⟨(i : Int), ?_, by omega⟩
      show slices_Index_int_l0 k l x (n + 1) (i : Int) = _
      rw [slices_Index_int_l0, condD (by omega), bindS e2, condD]
      apply Classical.byContradiction
      intro hh
      refine hg fun s' e' hx => ?_
      rw [e1] at e'
      cases e'
      exact hh hx.symm)
    (fun n => by show slices_Index_int_l0 k l x (n + 1) _ = _; rw [slices_Index_int_l0, condN (by omega)])
    l.length k 0 (by omega) hl
  rcases h with ⟨a, b⟩ | ⟨⟨j, _, a2, a3⟩, r, b, hr⟩
  · have b : slices_Index_int_l0 k l x k 0 = _ := b
    rw [bindS b, elim_go, bindS rfl, decide_eq_false (by omega), decide_eq_false (idx_mem.1 fun j hj => a j (by omega) hj)]
  · have b : slices_Index_int_l0 k l x k 0 = _ := b
    rw [bindS b, elim_rt, bindS rfl, decide_eq_true hr, decide_eq_true]
    apply Classical.byContradiction
    intro hx
    exact a3 (fun s e => idx_mem.2 hx j a2 s e)
def poleS (p : Pole) : Seat := Seat.mk 0 p.X p.Y 0
instance : Inhabited Seat := ⟨Seat.mk 0 0 0 0⟩
def poleB (v : Venue) (s j : Nat) : Bool := closeB (v.Seats.getD s default) (poleS (v.Poles.getD j default)) (v.Poles.getD j default).R
/-- The reasons why a seat is dead. -/
def killL (v : Venue) (s : Nat) : List Int := (if (s : Int) ∈ v.Kills then [-1] else []) ++ ((List.range v.Poles.length).filter (poleB v s)).map (fun j : Nat => (j : Int))
theorem getD_of {α : Type} {l : List α} {i : Nat} {s d : α} (h : l[i]? = some s) : l.getD i d = s := by rw [List.getD_eq_getElem?_getD, h]; rfl
theorem kill_by_eq (k : Nat) (v : Venue) (s : Nat) (hs : s < v.Seats.length) (hk : 3 ≤ k) (h2 : v.Kills.length < k) (h3 : v.Poles.length < k) (hb : k ≤ 4294967290) : kill_by k v (s : Int) = some (killL v s) := by
  unfold kill_by killL
  rw [bindS (slices_Contains_int_eq k _ _ h2 (by omega))]
  have e1 : (cond (decide ((s : Int) ∈ v.Kills)) (gd (decide (([(-1 : Int)]).length ≤ 4294967296)) (some [(-1 : Int)])) (some [])) = some (if (s : Int) ∈ v.Kills then [-1] else []) := by
    by_cases h : (s : Int) ∈ v.Kills
    · rw [condD h, if_pos h, gdD (by simp)]
    · rw [condN h, if_neg h]
  rw [bindS e1]
  obtain ⟨t, t1, t2⟩ := some_get hs
  have h := gather0 (f := fun n a i => kill_by_l0 k v (s : Int) n a i) (len := v.Poles.length) (c := 1) (poleB v s) (fun j : Nat => (j : Int))
    (fun n i w hi hw => by
      obtain ⟨p, e1, e2⟩ := some_get hi
      show kill_by_l0 k v (s : Int) (n + 1) w (i : Int) = kill_by_l0 k v (s : Int) n _ _
      have hp : poleB v s i = closeB t (Seat.mk 0 p.X p.Y 0) p.R := by unfold poleB poleS; rw [getD_of t1, getD_of e1]
      rw [kill_by_l0, condD (by omega), bindS e2, bindS t2, bindS (geom_Close_eq _ _ _ _ hk), ← hp, wr_succ (by omega)]
      cases poleB v s i
      · rw [condF rfl, if_neg (by simp)]
      · rw [condT rfl, gdD (by simp only [List.length_singleton]; omega), if_pos rfl])
    (fun n w => by show kill_by_l0 k v (s : Int) (n + 1) w _ = _; rw [kill_by_l0, condN (by omega)])
    h3 (if (s : Int) ∈ v.Kills then [-1] else []) (by split <;> simp)
  have h : kill_by_l0 k v (s : Int) k _ 0 = _ := h
  rw [bindS h]
def deadB (v : Venue) (s : Nat) : Bool := decide ((killL v s).length = 0)
def usL (v : Venue) : List Bool := (List.range v.Seats.length).map (deadB v)
structure Small (k : Nat) (v : Venue) : Prop where
  hs : v.Seats.length < k
  hk : v.Kills.length < k
  hp : v.Poles.length < k
  b : k ≤ 4294967290
  b3 : 3 ≤ k
theorem idx_set_ok {α : Type} {l : List α} {i : Nat} (h : i < l.length) : ∃ y, idx l (i : Int) = some y := ⟨_, idx_nat h⟩
theorem kill_Usable_eq {k : Nat} {v : Venue} (hv : Small k v) : kill_Usable k v = some (cond (mayB v) (usL v) []) := by
  have h1 := hv.hs
  have hb := hv.b
  unfold kill_Usable
  rw [bindS (venue_May_eq k v hv.hs hv.hk hv.hp (by omega))]
  cases hm : mayB v
  · rfl
  have hM := mayB_iff.1 hm
  rw [cNT, gdD (by omega)]
  have h := fill0 (f := fun n a i => kill_Usable_l0 k v n a i) (len := v.Seats.length) (deadB v)
    (fun n i w hi hw => by
      show kill_Usable_l0 k v (n + 1) w (i : Int) = kill_Usable_l0 k v n _ _
      obtain ⟨y, e⟩ := idx_set_ok (l := w) (i := i) (by omega)
      rw [kill_Usable_l0, condD (by rw [List.length_replicate]; omega), bindS (kill_by_eq k v i hi hv.b3 hv.hk hv.hp hv.b), bindS e, wr_succ (by omega), Int.toNat_natCast]
      congr 2
      unfold deadB
      rw [decide_eq_decide]
      omega)
    (fun n w hw => by show kill_Usable_l0 k v (n + 1) w _ = _; rw [kill_Usable_l0, condN (by rw [List.length_replicate]; omega)])
    h1 (List.replicate (v.Seats.length : Int).toNat false) (by rw [List.length_replicate]; omega)
  have h : kill_Usable_l0 k v k _ 0 = _ := h
  rw [bindS h]
  rfl
theorem sameInts_refl (k : Nat) (l : List Int) (hl : l.length < k) (hb : l.length ≤ 4294967290) : ref6_SameInts k l l = some true := by
  unfold ref6_SameInts
  rw [condNT rfl]
  have h := scan_go (f := fun n i => ref6_SameInts_l0 k l l n i) (len := l.length) (good := fun _ => True)
    (fun n i hi _ => by
      show ref6_SameInts_l0 k l l (n + 1) (i : Int) = _
      obtain ⟨y, e1, e2⟩ := some_get hi
      rw [ref6_SameInts_l0, condD (by omega), bindS e2, bindS e2, condNT rfl, wr_succ (by omega)])
    (fun n => by show ref6_SameInts_l0 k l l (n + 1) _ = _; rw [ref6_SameInts_l0, condN (by omega)]) l.length k 0 (by omega) hl (fun _ _ _ => trivial)
  have h : ref6_SameInts_l0 k l l k 0 = _ := h
  rw [bindS h, elim_go]
end Go.Px

set_option linter.unusedVariables false
set_option linter.unusedSimpArgs false
namespace Go.Px
open Go Go.Sh
end Go.Px

set_option linter.unusedVariables false
set_option linter.unusedSimpArgs false
namespace Go.Px
open Go Go.Sh
end Go.Px

set_option linter.unusedVariables false
set_option linter.unusedSimpArgs false
namespace Go.Px
open Go Go.Sh
def freeB (v : Venue) (U : List Bool) (s : Int) : Bool := decide (0 ≤ s ∧ s < v.Seats.length) && (U[s.toNat]?).getD false
def seatA (v : Venue) (s : Int) : Seat := v.Seats.getD s.toNat default
def nextB (v : Venue) (s : Int) : Bool := decide (0 ≤ s ∧ s + 1 < v.Seats.length) && (decide ((seatA v (s + 1)).Row = (seatA v s).Row) && decide (wr ((seatA v (s + 1)).X - (seatA v s).X) ≤ v.Gap))
theorem seat_idx {v : Venue} {s : Int} (h0 : 0 ≤ s) (h : s < v.Seats.length) : idx v.Seats s = some (seatA v s) := by
  obtain ⟨j, rfl⟩ := Int.eq_ofNat_of_zero_le h0
  obtain ⟨t, e1, e2⟩ := some_get (l := v.Seats) (i := j) (by omega)
  rw [e2]
  unfold seatA
  rw [Int.toNat_natCast, getD_of e1]
theorem run_free_eq (k : Nat) (v : Venue) (U : List Bool) (s : Int) : run_free k v U s = some (freeB v U s) := by
  unfold run_free freeB
  by_cases h1 : s < 0
  · rw [condD h1, decide_eq_false (by omega)]; rfl
  by_cases h2 : (v.Seats.length : Int) ≤ s
  · rw [condN h1, condD h2, decide_eq_false (by omega)]; rfl
  rw [condN h1, condN h2, decide_eq_true (p := 0 ≤ s ∧ s < (v.Seats.length : Int)) (by omega), Bool.true_and]
  by_cases h3 : (U.length : Int) ≤ s
  · rw [condD h3, List.getElem?_eq_none (by omega)]; rfl
  · have h := List.getElem?_eq_getElem (l := U) (i := s.toNat) (by omega)
    rw [condN h3, bindS (idx_get (by omega) h), h]; rfl
theorem run_next_eq (k : Nat) (v : Venue) (s : Int) (hl : v.Seats.length ≤ 4294967290) : run_next k v s = some (nextB v s) := by
  unfold run_next nextB
  rw [wr_id (x := (v.Seats.length : Int) - 1) (by omega) (by omega)]
  by_cases h1 : 0 ≤ s
  · by_cases h2 : s < (v.Seats.length : Int) - 1
    · rw [condD h1, condD h2, wr_id (x := s + 1) (by omega) (by omega), bindS (seat_idx (by omega) (by omega)), bindS (seat_idx (by omega) (by omega)), decide_eq_true (p := 0 ≤ s ∧ s + 1 < (v.Seats.length : Int)) (by omega), Bool.true_and]
      by_cases h3 : (seatA v (s + 1)).Row = (seatA v s).Row
      · rw [condD h3, bindS (seat_idx (by omega) (by omega)), bindS (seat_idx (by omega) (by omega)), decide_eq_true h3, Bool.true_and]
      · rw [condN h3, decide_eq_false h3, Bool.false_and]
    · rw [condD h1, condN h2, decide_eq_false (by omega), Bool.false_and]
  · rw [condN h1, decide_eq_false (by omega), Bool.false_and]
theorem ref6_seat_eq (k : Nat) (v : Venue) (s : Int) : ref6_seat k v s = some (decide (0 ≤ s ∧ s < v.Seats.length)) := by
  unfold ref6_seat
  exact condAnd rfl
theorem ref6_next_eq (k : Nat) (v : Venue) (s : Int) (h0 : -1 ≤ s) (h1 : s < 4611686018427387904) (hl : v.Seats.length ≤ 4294967290) : ref6_next k v s = some (nextB v s) := by
  unfold ref6_next nextB
  rw [bindS (ref6_seat_eq _ _ _), wr_id (x := s + 1) (by omega) (by omega), bindS (ref6_seat_eq _ _ _)]
  by_cases h2 : 0 ≤ s ∧ s < v.Seats.length
  · rw [condD h2]
    by_cases h3 : 0 ≤ s + 1 ∧ s + 1 < v.Seats.length
    · rw [condD h3, bindS (seat_idx (by omega) (by omega)), bindS (seat_idx (by omega) (by omega)), decide_eq_true (p := 0 ≤ s ∧ s + 1 < (v.Seats.length : Int)) (by omega), Bool.true_and]
      by_cases h4 : (seatA v (s + 1)).Row = (seatA v s).Row
      · rw [condD h4.symm, bindS (seat_idx (by omega) (by omega)), bindS (seat_idx (by omega) (by omega)), decide_eq_true h4, Bool.true_and]
      · rw [condN (fun h => h4 h.symm), decide_eq_false h4, Bool.false_and]
    · rw [condN h3, decide_eq_false (by omega), Bool.false_and]
  · rw [condN h2, decide_eq_false (by omega), Bool.false_and]
def onB (v : Venue) (U : List Bool) (s : Int) (i : Nat) : Bool := freeB v U (s + i) && (decide (i = 0) || nextB v (s + i - 1))
structure Pre (p : Nat → Bool) (m r : Nat) : Prop where
  le : r ≤ m
  all : ∀ j, j < r → p j = true
  stop : r < m → p r = false
theorem Pre.uniq {p : Nat → Bool} {m r r' : Nat} (h : Pre p m r) (h' : Pre p m r') : r = r' := by
  rcases Nat.lt_trichotomy r r' with hl | hl | hl
  · have h1 := h'.all r hl
    have h2 := h.stop (by have := h'.le; omega)
    rw [h1] at h2
    cases h2
  · exact hl
  · have h1 := h.all r' hl
    have h2 := h'.stop (by have := h.le; omega)
    rw [h1] at h2
    cases h2
theorem Pre.cut {p : Nat → Bool} {m n r r' : Nat} (h : Pre p m r) (h' : Pre p n r') (hm : m ≤ n) : r = min m r' := by
  refine h.uniq ⟨by omega, fun j hj => h'.all j (by omega), fun hl => ?_⟩
  have : min m r' = r' := by omega
  rw [this] at hl ⊢
  exact h'.stop (by omega)
theorem free_low {v : Venue} {U : List Bool} {s : Int} (h : freeB v U s = true) : 0 ≤ s ∧ s < v.Seats.length := by
  unfold freeB at h
  rw [Bool.and_eq_true, decide_eq_true_iff] at h
  exact h.1
theorem next_low {v : Venue} {s : Int} (h : nextB v s = true) : 0 ≤ s ∧ s + 1 < v.Seats.length := by
  unfold nextB at h
  rw [Bool.and_eq_true, decide_eq_true_iff] at h
  exact h.1
theorem onB_zero (v : Venue) (U : List Bool) (s : Int) : onB v U s 0 = freeB v U s := by
  unfold onB
  simp
theorem run_long_l0_eq (k : Nat) (v : Venue) (U : List Bool) (s : Int) (hs : okI s) (m : Nat) (hl : v.Seats.length ≤ 4294967290) (hm : m ≤ 4294967290) : ∀ (d n i : Nat), i + d = m → d < n → (∀ j, j < i → onB v U s j = true) → ∃ r : Nat, run_long_l0 k v U s (m : Int) n (i : Int) = some (r : Int) ∧ Pre (onB v U s) m r
  | d, 0, i, _, h, _ => absurd h (by omega)
  | 0, n + 1, i, hi, _, ha => by
    rw [run_long_l0, condN (by omega)]
    exact ⟨i, rfl, by omega, ha, fun h => by omega⟩
  | d + 1, n + 1, i, hi, h, ha => by
    obtain ⟨s0, s1⟩ := hs
    have hw : i = 0 ∨ (0 < i ∧ 0 ≤ s ∧ s < v.Seats.length) := by
      rcases Nat.eq_zero_or_pos i with e | e
      · exact .inl e
      · have := ha 0 e
        rw [onB_zero] at this
        exact .inr ⟨e, free_low this⟩
    have e1 : wr (s + (i : Int)) = s + i := by
      rcases hw with rfl | h
      · rw [show s + ((0 : Nat) : Int) = s by omega]
        exact wr_id s0 s1
      · exact wr_id (by omega) (by omega)
    rw [run_long_l0, condD (by omega), e1, bindS (run_free_eq _ _ _ _), wr_succ (by omega)]
    have hstop : onB v U s i = false → ∃ r : Nat, (some (i : Int)) = some (r : Int) ∧ Pre (onB v U s) m r := fun h => ⟨i, rfl, by omega, ha, fun _ => h⟩
    have hgo : onB v U s i = true → ∃ r : Nat, run_long_l0 k v U s (m : Int) n ((i + 1 : Nat) : Int) = some (r : Int) ∧ Pre (onB v U s) m r := fun h =>
      run_long_l0_eq k v U s ⟨s0, s1⟩ m hl hm d n (i + 1) (by omega) (by omega) (fun j hj => by
        rcases Nat.lt_or_ge j i with hh | hh
        · exact ha j hh
        · rw [show j = i by omega]; exact h)
    cases hf : freeB v U (s + i)
    · rw [condF rfl]
      exact hstop (by unfold onB; rw [hf, Bool.false_and])
    · rw [condT rfl]
      by_cases h0 : i = 0
      · rw [condD (by omega)]
        exact hgo (by unfold onB; rw [hf, decide_eq_true h0]; rfl)
      · rw [condN (by omega), wr_id (x := s + (i : Int) - 1) (by omega) (by omega), bindS (run_next_eq _ _ _ hl)]
        cases hn : nextB v (s + i - 1)
        · rw [condF rfl]
          exact hstop (by unfold onB; rw [hf, hn, decide_eq_false h0]; rfl)
        · rw [condT rfl]
          exact hgo (by unfold onB; rw [hf, hn, decide_eq_false h0]; rfl)
theorem run_long_eq (k : Nat) (v : Venue) (U : List Bool) (s : Int) (hs : okI s) (m : Nat) (hl : v.Seats.length ≤ 4294967290) (hm : m < k) (hk : k ≤ 4294967290) : ∃ r : Nat, run_long k v U s (m : Int) = some (r : Int) ∧ Pre (onB v U s) m r := by
  unfold run_long
  obtain ⟨r, e, h⟩ := run_long_l0_eq k v U s hs m hl (by omega) m k 0 (by omega) hm (fun j hj => by omega)
  have e : run_long_l0 k v U s (m : Int) k 0 = _ := e
  exact ⟨r, by rw [bindS e], h⟩
theorem ref6_is_eq (k : Nat) (U : List Bool) (s : Int) (h0 : 0 ≤ s) : ref6_is k U s = some ((U[s.toNat]?).getD false) := by
  unfold ref6_is
  rw [condD h0]
  by_cases h3 : s < (U.length : Int)
  · have h := List.getElem?_eq_getElem (l := U) (i := s.toNat) (by omega)
    rw [condD h3, bindS (idx_get (by omega) h), h]; rfl
  · rw [condN h3, List.getElem?_eq_none (by omega)]; rfl
theorem ref6_long_l0_eq (k : Nat) (v : Venue) (U : List Bool) (s : Int) (hs : 0 ≤ s ∧ s < v.Seats.length) (hl : v.Seats.length ≤ 4294967290) : ∀ (d n i : Nat), i + d = v.Seats.length → d < n → 0 < i → (∀ j, j < i → onB v U s j = true) → ∃ r : Nat, ref6_long_l0 k v U s n (i : Int) = some (r : Int) ∧ Pre (onB v U s) v.Seats.length r
  | d, 0, i, _, h, _, _ => absurd h (by omega)
  | d, n + 1, i, hi, h, h0, ha => by
    rw [ref6_long_l0, wr_id (x := s + (i : Int)) (by omega) (by omega), wr_id (x := s + (i : Int) - 1) (by omega) (by omega), bindS (ref6_next_eq _ _ _ (by omega) (by omega) hl), bindS (ref6_is_eq _ _ _ (by omega)), wr_succ (by omega)]
    have hstop : (i < v.Seats.length → onB v U s i = false) → ∃ r : Nat, (some (i : Int)) = some (r : Int) ∧ Pre (onB v U s) v.Seats.length r := fun h => ⟨i, rfl, by omega, ha, h⟩
    cases hn : nextB v (s + i - 1)
    · rw [condF rfl]
      exact hstop fun _ => by unfold onB; rw [hn, decide_eq_false (by omega), Bool.or_false, Bool.and_false]
    · have hlow := next_low hn
      obtain ⟨d, rfl⟩ : ∃ q, d = q + 1 := ⟨d - 1, by omega⟩
      rw [condT rfl]
      cases hu : (U[(s + (i : Int)).toNat]?).getD false
      · rw [condF rfl]
        exact hstop fun _ => by unfold onB freeB; rw [hu, Bool.and_false, Bool.false_and]
      · rw [condT rfl]
        have hok : onB v U s i = true := by unfold onB freeB; rw [hn, hu, decide_eq_true (by omega)]; simp
        exact ref6_long_l0_eq k v U s hs hl d n (i + 1) (by omega) (by omega) (by omega) (fun j hj => by
          rcases Nat.lt_or_ge j i with hh | hh
          · exact ha j hh
          · rw [show j = i by omega]; exact hok)
theorem ref6_long_eq (k : Nat) (v : Venue) (U : List Bool) (s : Int) (hl : v.Seats.length < k) (hk : k ≤ 4294967290) : ∃ r : Nat, ref6_long k v U s = some (r : Int) ∧ Pre (onB v U s) v.Seats.length r := by
  unfold ref6_long
  rw [bindS (ref6_seat_eq _ _ _)]
  have hzero : freeB v U s = false → ∃ r : Nat, (some (0 : Int)) = some (r : Int) ∧ Pre (onB v U s) v.Seats.length r := fun h => ⟨0, rfl, by omega, fun j hj => by omega, fun _ => by rw [onB_zero, h]⟩
  by_cases h1 : 0 ≤ s ∧ s < v.Seats.length
  · rw [condNT h1, bindS (ref6_is_eq _ _ _ h1.1), bindS rfl]
    cases hu : (U[s.toNat]?).getD false
    · rw [cNF]
      exact hzero (by unfold freeB; rw [hu, Bool.and_false])
    · rw [cNT]
      have hf : freeB v U s = true := by unfold freeB; rw [hu, decide_eq_true h1]; rfl
      obtain ⟨r, e, h⟩ := ref6_long_l0_eq k v U s h1 (by omega) (v.Seats.length - 1) k 1 (by omega) (by omega) (by omega) (fun j hj => by
        obtain rfl : j = 0 := by omega
        rw [onB_zero, hf])
      have e : ref6_long_l0 k v U s k 1 = _ := e
      exact ⟨r, by rw [bindS e], h⟩
  · rw [condNF h1, bindS rfl, condT rfl]
    exact hzero (by unfold freeB; rw [decide_eq_false h1, Bool.false_and])
def rangeL (s : Int) (m : Nat) : List Int := (List.range m).map (fun j : Nat => s + (j : Int))
theorem rangeL_len (s : Int) (m : Nat) : (rangeL s m).length = m := by unfold rangeL; rw [List.length_map, List.length_range]
theorem rangeL_get {s : Int} {m i : Nat} (h : i < m) : (rangeL s m)[i]? = some (s + i) := by unfold rangeL; simp [h]
theorem run_piece_eq (k : Nat) (s : Int) (m : Nat) (hm : m < k) (hs : -4294967290 ≤ s ∧ s ≤ 4294967290) (hk : k ≤ 4294967290) : run_piece k s (m : Int) = some (rangeL s m) := by
  unfold run_piece
  have h := gather0 (f := fun n a i => run_piece_l0 k s (m : Int) n a i) (len := m) (c := 0) (fun _ => true) (fun j : Nat => s + (j : Int))
    (fun n i w hi hw => by
      show run_piece_l0 k s (m : Int) (n + 1) w (i : Int) = run_piece_l0 k s (m : Int) n _ _
      rw [run_piece_l0, condD (by omega), gdD (by simp only [List.length_singleton]; omega), wr_succ (by omega), wr_id (x := s + (i : Int)) (by omega) (by omega)]
      rfl)
    (fun n w => by show run_piece_l0 k s (m : Int) (n + 1) w _ = _; rw [run_piece_l0, condN (by omega)])
    hm [] (by simp)
  have h : run_piece_l0 k s (m : Int) k [] 0 = _ := h
  rw [bindS h, List.filter_eq_self.2 (fun _ _ => rfl)]
  rfl
/-- The length of the run at s. -/
noncomputable def runN (v : Venue) (U : List Bool) (s : Int) : Nat := (ref6_long 4294967290 v U s).getD 0 |>.toNat
theorem runN_pre {v : Venue} {U : List Bool} {s : Int} (hl : v.Seats.length < 4294967290) : Pre (onB v U s) v.Seats.length (runN v U s) := by
  obtain ⟨r, e, h⟩ := ref6_long_eq 4294967290 v U s hl (by omega)
  unfold runN
  rw [e]
  exact h
theorem run_long_min {k : Nat} {v : Venue} {U : List Bool} {s : Int} (hs : okI s) (hl : v.Seats.length < k) (hk : k ≤ 4294967290) {m : Nat} (hm : m ≤ v.Seats.length) : run_long k v U s (m : Int) = some ((min m (runN v U s) : Nat) : Int) := by
  obtain ⟨r, e, h⟩ := run_long_eq k v U s hs m (by omega) (by omega) hk
  rw [e, h.cut (runN_pre (by omega)) hm]
theorem runN_pos {v : Venue} {U : List Bool} {s : Int} (hl : v.Seats.length < 4294967290) (h : 0 < runN v U s) : 0 ≤ s ∧ s + runN v U s ≤ v.Seats.length := by
  have hp := runN_pre (v := v) (U := U) (s := s) hl
  have h1 := hp.all (runN v U s - 1) (by omega)
  have h0 := hp.all 0 h
  rw [onB_zero] at h0
  have h0 := free_low h0
  unfold onB at h1
  rw [Bool.and_eq_true] at h1
  have h1 := free_low h1.1
  omega
/-- What Take answers. -/
noncomputable def takeV (v : Venue) (U : List Bool) (s m : Int) : List Int × Bool := if 1 ≤ m ∧ m ≤ runN v U s then (rangeL s m.toNat, true) else ([], false)
theorem run_Take_eq {k : Nat} {v : Venue} {U : List Bool} {s : Int} (m : Int) (hs : okI s) (hl : v.Seats.length < k) (hk : k ≤ 4294967290) : run_Take k v U s m = some (takeV v U s m) := by
  have hp := runN_pre (v := v) (U := U) (s := s) (by omega)
  have hle := hp.le
  unfold run_Take takeV
  by_cases h1 : m < 1
  · rw [condD h1, if_neg (by omega)]
  by_cases h2 : (v.Seats.length : Int) < m
  · rw [condN h1, condD h2, if_neg (by omega)]
  obtain ⟨q, rfl⟩ := Int.eq_ofNat_of_zero_le (by omega : 0 ≤ m)
  rw [condN h1, condN h2, bindS (run_long_min hs hl hk (by omega))]
  by_cases h3 : ((min q (runN v U s) : Nat) : Int) < (q : Int)
  · rw [condD h3, if_neg (by omega)]
  · have := runN_pos (v := v) (U := U) (s := s) (by omega) (by omega)
    rw [condN h3, bindS (run_piece_eq k s q (by omega) (by omega) hk), if_pos (by omega), Int.toNat_natCast]
end Go.Px

set_option linter.unusedVariables false
set_option linter.unusedSimpArgs false
namespace Go.Px
open Go Go.Sh
end Go.Px

set_option linter.unusedVariables false
set_option linter.unusedSimpArgs false
namespace Go.Px
open Go Go.Sh
abbrev MayP (p : Party) : Prop := 1 ≤ p.Size ∧ p.Size ≤ 8 ∧ 0 ≤ p.Wheels ∧ p.Wheels ≤ 2 ∧ 2 * p.Wheels ≤ p.Size
theorem party_May_eq (k : Nat) (p : Party) : party_May k p = some (decide (MayP p)) := by
  unfold party_May
  by_cases h1 : p.Size < 1
  · rw [condD h1, decide_eq_false (by omega)]
  by_cases h2 : 8 < p.Size
  · rw [condN h1, condD h2, decide_eq_false (by omega)]
  by_cases h3 : p.Wheels < 0
  · rw [condN h1, condN h2, condD h3, decide_eq_false (by omega)]
  by_cases h4 : p.Wheels ≤ 2
  · rw [condN h1, condN h2, condN h3, condD h4, wr_id (by omega) (by omega)]
    congr 1
    rw [decide_eq_decide]
    omega
  · rw [condN h1, condN h2, condN h3, condN h4, decide_eq_false (by omega)]
/-- The kind of the j-th seat of a piece; 0 outside. -/
def kd (v : Venue) (s : Int) (m : Nat) (j : Int) : Int := if 0 ≤ j ∧ j < m then (seatA v (s + j)).Kind else 0
def kF (v : Venue) (s : Int) (m : Nat) : Nat → Nat → Int → Int → Ex (Int × Int) Bool
  | 0, _, w, c => .go (w, c)
  | d + 1, j, w, c => if kd v s m j = 1 then (if ¬ kd v s m ((j : Int) - 1) = 2 ∧ ¬ kd v s m ((j : Int) + 1) = 2 then .rt false else kF v s m d (j + 1) (w + 1) c) else if kd v s m j = 2 then kF v s m d (j + 1) w (c + 1) else kF v s m d (j + 1) w c
def kindsB (v : Venue) (s : Int) (m : Nat) (want : Int) : Bool := match kF v s m m 0 0 0 with
  | .go (w, c) => decide (w = want ∧ (want = 0 → c ≤ 0))
  | .rt b => b
theorem kinds_1_eq (k : Nat) (h : PlaceHall) (s : Int) (m : Nat) (hs : 0 ≤ s ∧ s + m ≤ h.V.Seats.length) (j : Int) : place_Hall_kinds_1 k j (rangeL s m) h = some (kd h.V s m j) := by
  unfold place_Hall_kinds_1 kd
  by_cases h1 : j < 0
  · rw [condD h1, if_neg (by omega)]
  by_cases h2 : ((rangeL s m).length : Int) ≤ j
  · rw [condN h1, condD h2, if_neg (by rw [rangeL_len] at h2; omega)]
  rw [rangeL_len] at h2
  obtain ⟨q, rfl⟩ := Int.eq_ofNat_of_zero_le (by omega : 0 ≤ j)
  rw [condN h1, condN (by rw [rangeL_len]; exact h2), bindS (idx_get (by omega) (by rw [Int.toNat_natCast]; exact rangeL_get (by omega))), bindS (seat_idx (by omega) (by omega)), if_pos (by omega)]
theorem place_kinds_l0_eq (k : Nat) (h : PlaceHall) (s : Int) (m : Nat) (hs : 0 ≤ s ∧ s + m ≤ h.V.Seats.length) (hm : m ≤ 1000) : ∀ (d n j : Nat) (w c : Int), j + d = m → d < n → 0 ≤ w → w ≤ j → 0 ≤ c → c ≤ j →
    place_Hall_kinds_l0 k h (rangeL s m) n w c (j : Int) = some (kF h.V s m d j w c)
  | d, 0, j, w, c, _, hd, _, _, _, _ => absurd hd (by omega)
  | 0, n + 1, j, w, c, hj, _, _, _, _, _ => by
    rw [place_Hall_kinds_l0, condN (by rw [rangeL_len]; omega), kF]
  | d + 1, n + 1, j, w, c, hj, hd, w0, w1, c0, c1 => by
    rw [place_Hall_kinds_l0, condD (by rw [rangeL_len]; omega), bindS (kinds_1_eq k h s m hs _), wr_succ (by omega), kF, wr_id (x := w + 1) (by omega) (by omega), wr_id (x := c + 1) (by omega) (by omega)]
    by_cases h1 : kd h.V s m j = 1
    · rw [condD h1, if_pos h1, wr_id (x := (j : Int) - 1) (by omega) (by omega), bindS (kinds_1_eq k h s m hs _)]
      by_cases h2 : kd h.V s m ((j : Int) - 1) = 2
      · rw [condNT h2, if_neg (fun h => h.1 h2)]
        exact place_kinds_l0_eq k h s m hs hm d n (j + 1) (w + 1) c (by omega) (by omega) (by omega) (by omega) (by omega) (by omega)
      · rw [condNF h2, show ((j + 1 : Nat) : Int) = (j : Int) + 1 by omega, bindS (kinds_1_eq k h s m hs _)]
        by_cases h3 : kd h.V s m ((j : Int) + 1) = 2
        · rw [condNT h3, if_neg (fun h => h.2 h3)]
          exact place_kinds_l0_eq k h s m hs hm d n (j + 1) (w + 1) c (by omega) (by omega) (by omega) (by omega) (by omega) (by omega)
        · rw [condNF h3, if_pos ⟨h2, h3⟩]
    · rw [condN h1, if_neg h1]
      by_cases h2 : kd h.V s m j = 2
      · rw [condD h2, if_pos h2]
        exact place_kinds_l0_eq k h s m hs hm d n (j + 1) w (c + 1) (by omega) (by omega) (by omega) (by omega) (by omega) (by omega)
      · rw [condN h2, if_neg h2]
        exact place_kinds_l0_eq k h s m hs hm d n (j + 1) w c (by omega) (by omega) (by omega) (by omega) (by omega) (by omega)
theorem place_Hall_kinds_eq (k : Nat) (h : PlaceHall) (s : Int) (m : Nat) (want : Int) (hs : 0 ≤ s ∧ s + m ≤ h.V.Seats.length) (hm : m ≤ 1000) (hk : m < k) : place_Hall_kinds k h (rangeL s m) want = some (kindsB h.V s m want) := by
  unfold place_Hall_kinds kindsB
  have e : place_Hall_kinds_l0 k h (rangeL s m) k 0 0 0 = _ := place_kinds_l0_eq k h s m hs hm m k 0 0 0 (by omega) hk (by omega) (by omega) (by omega) (by omega)
  rw [bindS e]
  cases hr : kF h.V s m m 0 0 0 with
  | rt b => rw [elim_rt]
  | go o =>
    obtain ⟨w, c⟩ := o
    rw [elim_go]
    simp only
    by_cases h0 : want = 0
    · rw [condD h0]
      by_cases h1 : 0 < c
      · rw [condD h1, decide_eq_false (fun h => by have := h.2 h0; omega)]
      · rw [condN h1]
        by_cases h2 : w = want
        · rw [condNT h2, decide_eq_true ⟨h2, fun _ => by omega⟩]
        · rw [condNF h2, decide_eq_false (fun h => h2 h.1)]
    · rw [condN h0]
      by_cases h2 : w = want
      · rw [condNT h2, decide_eq_true ⟨h2, fun h => absurd h h0⟩]
      · rw [condNF h2, decide_eq_false (fun h => h2 h.1)]
noncomputable def placeB (v : Venue) (U : List Bool) (p : Party) (s : Int) : Bool := decide (MayP p ∧ p.Size ≤ runN v U s) && kindsB v s p.Size.toNat p.Wheels
theorem place_Hall_Seats_eq {k : Nat} {h : PlaceHall} (p : Party) {s : Int} (hs : okI s) (hN : h.V.Seats.length < k) (hb : k ≤ 4294967290) (hk : 1000 < k) : place_Hall_Seats k h p s = some (if placeB h.V h.usable p s = true then (rangeL s p.Size.toNat, true) else ([], false)) := by
  unfold place_Hall_Seats placeB
  rw [bindS (party_May_eq _ _), bindS (run_Take_eq _ hs hN hb)]
  by_cases hm : MayP p
  · rw [condNT hm]
    unfold takeV
    by_cases hr : p.Size ≤ runN h.V h.usable s
    · have hpos := runN_pos (v := h.V) (U := h.usable) (s := s) (by omega) (by omega)
      rw [if_pos ⟨hm.1, hr⟩]
      simp only
      rw [cNT, bindS (place_Hall_kinds_eq k h s p.Size.toNat p.Wheels (by omega) (by omega) (by omega)), decide_eq_true ⟨hm, hr⟩, Bool.true_and]
      cases kindsB h.V s p.Size.toNat p.Wheels <;> rfl
    · rw [if_neg (fun h => hr h.2), decide_eq_false (fun h => hr h.2)]
      rfl
  · rw [condNF hm, decide_eq_false (fun h => hm h.1)]
    rfl
/- the reference -/
/- apart -/
def ApP (v : Venue) (s : Int) (m : Nat) (t : Int) (n : Nat) : Prop := ∀ x, x < m → ∀ y, y < n → ¬ s + (x : Int) = t + (y : Int) ∧ closeB (seatA v (s + x)) (seatA v (t + y)) v.Radius = false
open Classical in
noncomputable def apB (v : Venue) (s : Int) (m : Nat) (t : Int) (n : Nat) : Bool := decide (ApP v s m t n)
open Classical in
theorem apB_iff {v : Venue} {s : Int} {m : Nat} {t : Int} {n : Nat} : apB v s m t n = true ↔ ApP v s m t n := by unfold apB; exact decide_eq_true_iff
theorem apB_no {v : Venue} {s : Int} {m : Nat} {t : Int} {n : Nat} (h : ¬ ApP v s m t n) : apB v s m t n = false := by
  cases e : apB v s m t n
  · rfl
  · exact absurd (apB_iff.1 e) h
/-- Both double loops, once for all. -/
theorem ap_gen {v : Venue} {s : Int} {m : Nat} {t : Int} {n : Nat} {f2 : Nat → Int → Option (Ex Unit Bool)} {f3 : Int → Nat → Int → Option (Ex Unit Bool)} {k : Nat}
    (hs3 : ∀ (x : Nat) q (y : Nat), x < m → y < n → f3 (s + x) (q + 1) (t + y) = if ¬ s + (x : Int) = t + (y : Int) ∧ closeB (seatA v (s + x)) (seatA v (t + y)) v.Radius = false then f3 (s + x) q (t + ((y + 1 : Nat) : Int)) else some (.rt false))
    (he3 : ∀ (x : Nat) q, x < m → f3 (s + x) (q + 1) (t + n) = some (.go ()))
    (hs2 : ∀ q (x : Nat), x < m → f2 (q + 1) (s + x) = Option.bind (f3 (s + x) k t) fun o => Ex.elim o (fun _ => f2 q (s + ((x + 1 : Nat) : Int))) (fun rr => some (.rt rr)))
    (he2 : ∀ q, f2 (q + 1) (s + m) = some (.go ())) (hm : m < k) (hn : n < k) : f2 k s = some (if apB v s m t n = true then .go () else .rt false) := by
  have h3 : ∀ x : Nat, x < m → ((∀ y, y < n → ¬ s + (x : Int) = t + (y : Int) ∧ closeB (seatA v (s + x)) (seatA v (t + y)) v.Radius = false) ∧ f3 (s + x) k t = some (.go ())) ∨ ((¬ ∀ y, y < n → ¬ s + (x : Int) = t + (y : Int) ∧ closeB (seatA v (s + x)) (seatA v (t + y)) v.Radius = false) ∧ f3 (s + x) k t = some (.rt false)) := fun x hx => by
    have := scan (f := fun q i => f3 (s + x) q (t + i)) (len := n) (fun y => ¬ s + (x : Int) = t + (y : Int) ∧ closeB (seatA v (s + x)) (seatA v (t + y)) v.Radius = false) (r := false)
      (fun q y hy hg => by show f3 (s + x) (q + 1) (t + y) = _; rw [hs3 x q y hx hy, if_pos hg])
      (fun q y hy hg => by show f3 (s + x) (q + 1) (t + y) = _; rw [hs3 x q y hx hy, if_neg hg])
      (fun q => he3 x q hx) hn
    simp only [Int.add_zero] at this
    exact this
  have := scan (f := fun q i => f2 q (s + i)) (len := m) (fun x => ∀ y, y < n → ¬ s + (x : Int) = t + (y : Int) ∧ closeB (seatA v (s + x)) (seatA v (t + y)) v.Radius = false) (r := false)
      (fun q x hx hg => by
        show f2 (q + 1) (s + x) = _
        rcases h3 x hx with ⟨_, e⟩ | ⟨hn, _⟩
        · rw [hs2 q x hx, bindS e, elim_go]
        · exact absurd hg hn)
      (fun q x hx hg => by
        show f2 (q + 1) (s + x) = _
        rcases h3 x hx with ⟨hy, _⟩ | ⟨_, e⟩
        · exact absurd hy hg
        · rw [hs2 q x hx, bindS e, elim_rt])
      (fun q => he2 q) hm
  simp only [Int.add_zero] at this
  rcases this with ⟨a, b⟩ | ⟨a, b⟩
  · rw [b, apB_iff.2 a]
    rfl
  · rw [b, apB_no a]
    rfl
theorem place_Hall_Apart_eq {k : Nat} {h : PlaceHall} {p q : Party} {s t : Int} {m n : Nat} (hp : p.Size = m) (hq : q.Size = n) (hs : 0 ≤ s ∧ s + m ≤ h.V.Seats.length) (ht : 0 ≤ t ∧ t + n ≤ h.V.Seats.length) (hN : h.V.Seats.length < k) (hb : k ≤ 4294967290) (hk : 1000 < k) : place_Hall_Apart k h p s q t = some (apB h.V s m t n) := by
  unfold place_Hall_Apart
  have e := ap_gen (v := h.V) (s := s) (m := m) (t := t) (n := n) (f2 := fun a b => place_Hall_Apart_l2 k h p s q t a b) (f3 := fun x a b => place_Hall_Apart_l3 k h q t x a b) (k := k)
    (fun x z y hx hy => by
      show place_Hall_Apart_l3 k h q t (s + x) (z + 1) (t + y) = if _ then place_Hall_Apart_l3 k h q t (s + x) z _ else _
      rw [place_Hall_Apart_l3, hq, wr_id (x := t + (n : Int)) (by omega) (by omega), condD (by omega), bindS (seat_idx (by omega) (by omega)), bindS (seat_idx (by omega) (by omega)), bindS (geom_Close_eq _ _ _ _ (by omega)), wr_id (x := t + (y : Int) + 1) (by omega) (by omega), show t + (y : Int) + 1 = t + ((y + 1 : Nat) : Int) by omega]
      by_cases h1 : s + (x : Int) = t + (y : Int)
      · rw [condD h1, if_neg (fun h => h.1 h1)]
      · rw [condN h1]
        cases hc : closeB (seatA h.V (s + x)) (seatA h.V (t + y)) h.V.Radius
        · rw [if_pos ⟨h1, rfl⟩]; rfl
        · rw [if_neg (fun h => by cases h.2)]; rfl)
    (fun x z hx => by
      show place_Hall_Apart_l3 k h q t (s + x) (z + 1) (t + n) = _
      rw [place_Hall_Apart_l3, hq, wr_id (x := t + (n : Int)) (by omega) (by omega), condN (by omega)])
    (fun z x hx => by
      show place_Hall_Apart_l2 k h p s q t (z + 1) (s + x) = _
      rw [place_Hall_Apart_l2, hp, wr_id (x := s + (m : Int)) (by omega) (by omega), condD (by omega), wr_id (x := s + (x : Int) + 1) (by omega) (by omega), show s + (x : Int) + 1 = s + ((x + 1 : Nat) : Int) by omega])
    (fun z => by
      show place_Hall_Apart_l2 k h p s q t (z + 1) (s + m) = _
      rw [place_Hall_Apart_l2, hp, wr_id (x := s + (m : Int)) (by omega) (by omega), condN (by omega)])
    (by omega) (by omega)
  have e : place_Hall_Apart_l2 k h p s q t k s = _ := e
  rw [bindS e]
  cases apB h.V s m t n
  · rw [if_neg (by simp), elim_rt]
  · rw [if_pos rfl, elim_go]
theorem ref6_clash_eq {k : Nat} {v : Venue} (hM : MayV v) {x y : Int} (hx : 0 ≤ x ∧ x < v.Seats.length) (hy : 0 ≤ y ∧ y < v.Seats.length) (hxy : ¬ x = y) : ref6_clash k v x y = some (closeB (seatA v x) (seatA v y) v.Radius) := by
  have hr := hM.radius
  unfold ref6_clash
  rw [bindS (ref6_seat_eq _ _ _), condD hx, bindS (ref6_seat_eq _ _ _), condD hy, condNF hxy, bindS (seat_idx hx.1 hx.2), bindS (seat_idx hy.1 hy.2), bindS (ref6_Far_eq _ _ _), bindS (ref6_square_eq _ _ ⟨by omega, by omega⟩)]
  rfl
end Go.Px

set_option linter.unusedVariables false
set_option linter.unusedSimpArgs false
namespace Go.Px
open Go Go.Sh
noncomputable def plB (v : Venue) (p : Party) (s : Int) : Bool := mayB v && placeB v (usL v) p s
theorem placeB_pos {v : Venue} {U : List Bool} {p : Party} {s : Int} (hN : v.Seats.length < 4294967290) (h : placeB v U p s = true) : MayP p ∧ 0 ≤ s ∧ s + p.Size ≤ v.Seats.length ∧ p.Size ≤ runN v U s := by
  unfold placeB at h
  rw [Bool.and_eq_true, decide_eq_true_iff] at h
  have := runN_pos (v := v) (U := U) (s := s) hN (by omega)
  exact ⟨h.1.1, this.1, by omega, h.1.2⟩
theorem place_In_eq {k : Nat} {v : Venue} (hv : Small k v) : place_In k v = some (PlaceHall.mk v (cond (mayB v) (usL v) []), mayB v) := by
  have hb := hv.b
  unfold place_In
  rw [bindS (kill_Usable_eq hv), bindS (venue_May_eq k v hv.hs hv.hk hv.hp (by omega))]
theorem place_Seats_eq {k : Nat} {v : Venue} (hv : Small k v) (hk : 1000 < k) (p : Party) {s : Int} (hs : okI s) : place_Seats k v p s = some (if plB v p s = true then (rangeL s p.Size.toNat, true) else ([], false)) := by
  unfold place_Seats plB
  rw [bindS (place_In_eq hv)]
  cases mayB v
  · rfl
  rw [cNT, bindS (place_Hall_Seats_eq p hs hv.hs hv.b hk)]
  rfl
/-- Two parties, each at its place, apart. -/
noncomputable def aptB (v : Venue) (p : Party) (s : Int) (q : Party) (t : Int) : Bool := plB v p s && (plB v q t && apB v s p.Size.toNat t q.Size.toNat)
end Go.Px

set_option linter.unusedVariables false
set_option linter.unusedSimpArgs false
namespace Go.Px
open Go Go.Sh
theorem far_symm (a b : Seat) : far a b = far b a := by
  unfold far
  by_cases h : CoordP a.X ∧ CoordP a.Y ∧ CoordP b.X ∧ CoordP b.Y
  · rw [if_pos h, if_pos ⟨h.2.2.1, h.2.2.2, h.1, h.2.1⟩, show b.X - a.X = -(a.X - b.X) by omega, show b.Y - a.Y = -(a.Y - b.Y) by omega, Int.neg_mul_neg, Int.neg_mul_neg]
  · rw [if_neg h, if_neg (fun h' => h ⟨h'.2.2.1, h'.2.2.2, h'.1, h'.2.1⟩)]
theorem closeB_symm (a b : Seat) (r : Int) : closeB a b r = closeB b a r := by unfold closeB; rw [far_symm]
theorem ref6_Clash_eq {k : Nat} {v : Venue} (hv : Small k v) (hM : MayV v) {x y : Int} (hx : 0 ≤ x ∧ x < v.Seats.length) (hy : 0 ≤ y ∧ y < v.Seats.length) (hxy : ¬ x = y) : ref6_Clash k v x y = some (closeB (seatA v x) (seatA v y) v.Radius) := by
  have hb := hv.b
  unfold ref6_Clash
  rw [bindS (ref2_May_eq k v hv.hs hv.hk hv.hp (by omega)), mayB_iff.2 hM, cond_true, bindS (ref6_clash_eq hM hx hy hxy)]
/- venues alike in all but kills, poles and radius -/
end Go.Px

set_option linter.unusedVariables false
set_option linter.unusedSimpArgs false
namespace Go.Px
open Go Go.Sh
section
open Classical
noncomputable def dB (p : Prop) : Bool := decide p
theorem dB_iff {p : Prop} : dB p = true ↔ p := by unfold dB; exact decide_eq_true_iff
theorem dB_T {p : Prop} (h : p) : dB p = true := dB_iff.2 h
theorem dB_F {p : Prop} (h : ¬ p) : dB p = false := by
  cases e : dB p
  · rfl
  · exact absurd (dB_iff.1 e) h
/-- The first place at which `g` does not hold; -1 if there is none. -/
noncomputable def fstF (g : Nat → Prop) : Nat → Nat → Int
  | 0, _ => -1
  | d + 1, i => if g i then fstF g d (i + 1) else (i : Int)
theorem fstF_no {g : Nat → Prop} : ∀ {d i : Nat}, fstF g d i = -1 ↔ ∀ j, i ≤ j → j < i + d → g j
  | 0, i => ⟨fun _ j h1 h2 => absurd h2 (by omega), fun _ => rfl⟩
  | d + 1, i => by
    rw [fstF]
    split
    · rename_i hg
      rw [fstF_no]
      constructor
      · intro h j h1 h2
        rcases Nat.lt_or_ge i j with hl | hl
        · exact h j (by omega) (by omega)
        · rw [show j = i by omega]; exact hg
      · intro h j h1 h2
        exact h j (by omega) (by omega)
    · rename_i hg
      constructor
      · intro h; omega
      · intro h; exact absurd (h i (by omega) (by omega)) hg
end
theorem fstF_all {g : Nat → Prop} {n : Nat} : fstF g n 0 = -1 ↔ ∀ j, j < n → g j := by
  rw [fstF_no]
  exact ⟨fun h j hj => h j (by omega) (by omega), fun h j _ hj => h j (by omega)⟩
/-- A loop that goes on while `g` holds; each step knows that it held before. -/
theorem scanF {τ ρ : Type} {F : Nat → Nat → Option (Ex τ ρ)} {len : Nat} (g : Nat → Prop) {t : τ} (r : Nat → ρ)
    (hs : ∀ n i : Nat, i < len → (∀ j, j < i → g j) → g i → F (n + 1) i = F n (i + 1))
    (hf : ∀ n i : Nat, i < len → (∀ j, j < i → g j) → ¬ g i → F (n + 1) i = some (.rt (r i)))
    (he : ∀ n, (∀ j, j < len → g j) → F (n + 1) len = some (.go t)) : ∀ d n i : Nat, i + d = len → d < n → (∀ j, j < i → g j) → F n i = some (if fstF g d i = -1 then .go t else .rt (r (fstF g d i).toNat))
  | d, 0, i, _, h, _ => absurd h (by omega)
  | 0, n + 1, i, hi, _, hg => by
    obtain rfl : i = len := by omega
    rw [he n hg, fstF, if_pos rfl]
  | d + 1, n + 1, i, hi, h, hg => by
    rw [fstF]
    rcases Classical.em (g i) with hh | hh
    · rw [hs n i (by omega) hg hh, if_pos hh]
      refine scanF g r hs hf he d n (i + 1) (by omega) (by omega) fun j hj => ?_
      rcases Nat.lt_or_ge j i with hl | hl
      · exact hg j hl
      · rw [show j = i by omega]; exact hh
    · rw [hf n i (by omega) hg hh, if_neg hh, if_neg (by omega), Int.toNat_natCast]
theorem scanF0 {τ ρ : Type} {F : Nat → Nat → Option (Ex τ ρ)} {len k : Nat} (g : Nat → Prop) {t : τ} (r : Nat → ρ)
    (hs : ∀ n i : Nat, i < len → (∀ j, j < i → g j) → g i → F (n + 1) i = F n (i + 1))
    (hf : ∀ n i : Nat, i < len → (∀ j, j < i → g j) → ¬ g i → F (n + 1) i = some (.rt (r i)))
    (he : ∀ n, (∀ j, j < len → g j) → F (n + 1) len = some (.go t)) (hk : len < k) : F k 0 = some (if fstF g len 0 = -1 then .go t else .rt (r (fstF g len 0).toNat)) :=
  scanF g r hs hf he len k 0 (by omega) hk (fun j hj => absurd hj (by omega))
/-- The same, if nothing is told of where it stopped. -/
theorem scanB {τ ρ : Type} {F : Nat → Nat → Option (Ex τ ρ)} {len k : Nat} (g : Nat → Prop) {t : τ} {r : ρ}
    (hs : ∀ n i : Nat, i < len → (∀ j, j < i → g j) → g i → F (n + 1) i = F n (i + 1))
    (hf : ∀ n i : Nat, i < len → (∀ j, j < i → g j) → ¬ g i → F (n + 1) i = some (.rt r))
    (he : ∀ n, (∀ j, j < len → g j) → F (n + 1) len = some (.go t)) (hk : len < k) : F k 0 = some (if dB (∀ j, j < len → g j) = true then .go t else .rt r) := by
  rw [scanF0 g (fun _ => r) hs hf he hk]
  rcases Classical.em (∀ j, j < len → g j) with h | h
  · rw [dB_T h, if_pos (fstF_all.2 h), if_pos rfl]
  · rw [dB_F h, if_neg (fun e => h (fstF_all.1 e)), if_neg (by simp)]
/-- The item at a place. -/
def aI {α : Type} [Inhabited α] (l : List α) (x : Int) : α := l.getD x.toNat default
theorem idx_aI {α : Type} [Inhabited α] {l : List α} {x : Int} (h0 : 0 ≤ x) (h : x < (l.length : Int)) : idx l x = some (aI l x) := by
  refine idx_get h0 ?_
  unfold aI
  rw [List.getD_eq_getElem?_getD, List.getElem?_eq_getElem (by omega)]
  rfl
abbrev AllMay (L : List Party) : Prop := L.length ≤ 512 ∧ ∀ i : Nat, i < L.length → MayP (aI L i)
theorem party_All_1_eq (k : Nat) (p : Party) : party_All_1 k p = some (!decide (MayP p)) := by
  unfold party_All_1
  rw [bindS (party_May_eq k p)]
theorem party_All_eq {k : Nat} {L : List Party} (hk : L.length < k) (hb : k ≤ 4294967290) : party_All k L = some (dB (AllMay L)) := by
  unfold party_All slices_ContainsFunc_Party slices_IndexFunc_Party
  by_cases hl : (L.length : Int) ≤ 512
  · rw [condD hl]
    have e := scanF0 (F := fun n i => slices_IndexFunc_Party_l0 k L (fun p4 => party_All_1 k p4) n (i : Int)) (len := L.length) (k := k) (fun i => MayP (aI L i)) (t := ()) (fun i => (i : Int))
      (fun n i hi _ hg => by
        rw [slices_IndexFunc_Party_l0, condD (by omega), bindS (idx_aI (by omega) (by omega)), bindS (party_All_1_eq k _), wr_succ (by omega), decide_eq_true hg]
        rfl)
      (fun n i hi _ hg => by
        rw [slices_IndexFunc_Party_l0, condD (by omega), bindS (idx_aI (by omega) (by omega)), bindS (party_All_1_eq k _), wr_succ (by omega), decide_eq_false hg]
        rfl)
      (fun n _ => by
        rw [slices_IndexFunc_Party_l0, condN (by omega)]) hk
    have e : slices_IndexFunc_Party_l0 k L (fun p4 => party_All_1 k p4) k 0 = _ := e
    rw [e]
    rcases Classical.em (∀ j : Nat, j < L.length → MayP (aI L j)) with h | h
    · rw [if_pos (fstF_all.2 h), dB_T ⟨by omega, h⟩, bindS (x := some _) rfl, elim_go]
      rfl
    · have hne : ¬ fstF (fun i : Nat => MayP (aI L i)) L.length 0 = -1 := fun e => h (fstF_all.1 e)
      rw [if_neg hne, dB_F (fun x => h x.2), bindS (x := some _) rfl, elim_rt, bindS (x := some _) rfl, bindS (x := some _) rfl, decide_eq_true (by omega)]
      rfl
  · rw [condN hl, dB_F (fun h => hl (by omega))]
/- maps -/
theorem mfind_snd (x : Int) : ∀ (l : List (Int × Int)) (i j : Nat), (mfind l x i).map (·.2) = (mfind l x j).map (·.2)
  | [], _, _ => rfl
  | p :: l, i, j => by
    rw [mfind, mfind]
    split
    · rfl
    · exact mfind_snd x l _ _
theorem mget_nil (x : Int) : mget [] x = none := rfl
theorem mget_cons (p : Int × Int) (l : List (Int × Int)) (x : Int) : mget (p :: l) x = if x = p.1 then some p.2 else mget l x := by
  unfold mget
  rw [mfind]
  split
  · rfl
  · exact mfind_snd x l _ _
theorem mget_mset (x y v : Int) : ∀ l : List (Int × Int), mget (mset l y v) x = if x = y then some v else mget l x
  | [] => by rw [mset, mget_cons, mget_nil]
  | p :: l => by
    rw [mset]
    by_cases h : y = p.1
    · rw [if_pos h, mget_cons, mget_cons]
      by_cases h2 : x = y
      · rw [if_pos h2, if_pos h2]
      · rw [if_neg h2, if_neg h2, if_neg (by rw [← h]; exact h2)]
    · rw [if_neg h, mget_cons, mget_cons, mget_mset x y v l]
      by_cases h2 : x = y
      · rw [if_pos h2, if_pos h2, if_neg (by rw [h2]; exact h)]
      · rw [if_neg h2]
        split <;> simp_all
def pmN (P : List Pin) : Nat → List (Int × Int)
  | 0 => []
  | i + 1 => mset (pmN P i) (aI P i).Party (aI P i).First
/-- The pin of a party. -/
def pinAt (P : List Pin) (x : Int) : Option Int := mget (pmN P P.length) x
/-- The parties of the pins rise. -/
def RiseP (P : List Pin) : Prop := ∀ i j : Nat, i < j → j < P.length → (aI P i).Party < (aI P j).Party
theorem pmN_some {P : List Pin} {x f : Int} : ∀ {n : Nat}, mget (pmN P n) x = some f → ∃ i, i < n ∧ (aI P (i : Int)).Party = x ∧ (aI P (i : Int)).First = f
  | 0, h => by rw [pmN, mget_nil] at h; cases h
  | n + 1, h => by
    rw [pmN, mget_mset] at h
    split at h
    · rename_i hx
      cases h
      exact ⟨n, by omega, hx.symm, rfl⟩
    · obtain ⟨i, h1, h2⟩ := pmN_some h
      exact ⟨i, by omega, h2⟩
theorem pmN_get {P : List Pin} (hP : RiseP P) {i : Nat} : ∀ {n : Nat}, i < n → n ≤ P.length → mget (pmN P n) (aI P (i : Int)).Party = some (aI P (i : Int)).First
  | 0, h, _ => absurd h (by omega)
  | n + 1, h, hn => by
    rw [pmN, mget_mset]
    by_cases hi : i = n
    · rw [hi, if_pos rfl]
    · have := hP i n (by omega) (by omega)
      rw [if_neg (by omega)]
      exact pmN_get hP (by omega) (by omega)
theorem pinAt_get {P : List Pin} (hP : RiseP P) {i : Nat} (h : i < P.length) : pinAt P (aI P (i : Int)).Party = some (aI P (i : Int)).First := pmN_get hP h (Nat.le_refl _)
theorem pinAt_some {P : List Pin} {x f : Int} (h : pinAt P x = some f) : ∃ i, i < P.length ∧ (aI P (i : Int)).Party = x ∧ (aI P (i : Int)).First = f := pmN_some h
/- the halls' own words for one hall that may be -/
section
variable {k : Nat} {v : Venue}
theorem plB_in (hv : Small k v) {p : Party} {s : Int} (h : plB v p s = true) : MayV v ∧ MayP p ∧ 0 ≤ s ∧ s + p.Size ≤ v.Seats.length := by
  have hN := hv.hs
  have hb := hv.b
  unfold plB at h
  rw [Bool.and_eq_true] at h
  have := placeB_pos (by omega) h.2
  exact ⟨mayB_iff.1 h.1, this.1, this.2.1, this.2.2.1⟩
theorem plB_of (hM : MayV v) (p : Party) (s : Int) : placeB v (usL v) p s = plB v p s := by
  unfold plB
  rw [mayB_iff.2 hM, Bool.true_and]
theorem hall_Seats (hv : Small k v) (hM : MayV v) (hk : 1000 < k) (p : Party) {s : Int} (hs : okI s) : place_Hall_Seats k (PlaceHall.mk v (usL v)) p s = some (if plB v p s = true then (rangeL s p.Size.toNat, true) else ([], false)) := by
  rw [place_Hall_Seats_eq p hs hv.hs hv.b hk, ← plB_of hM]
theorem hall_Seats2 (hv : Small k v) (hM : MayV v) (hk : 1000 < k) (p : Party) {s : Int} (hs : okI s) : ∃ l, place_Hall_Seats k (PlaceHall.mk v (usL v)) p s = some (l, plB v p s) := by
  rw [hall_Seats hv hM hk p hs]
  cases plB v p s
  · exact ⟨_, rfl⟩
  · exact ⟨_, rfl⟩
theorem hall_Apart (hv : Small k v) (hM : MayV v) (hk : 1000 < k) {p : Party} {s : Int} {q : Party} {t : Int} (h1 : plB v p s = true) (h2 : plB v q t = true) : place_Hall_Apart k (PlaceHall.mk v (usL v)) p s q t = some (aptB v p s q t) := by
  obtain ⟨_, a1, a2, a3⟩ := plB_in hv h1
  obtain ⟨_, b1, b2, b3⟩ := plB_in hv h2
  rw [place_Hall_Apart_eq (m := p.Size.toNat) (n := q.Size.toNat) (by omega) (by omega) (by show 0 ≤ s ∧ s + (p.Size.toNat : Int) ≤ (v.Seats.length : Int); omega) (by show 0 ≤ t ∧ t + (q.Size.toNat : Int) ≤ (v.Seats.length : Int); omega) hv.hs hv.b hk]
  unfold aptB
  rw [h1, h2, Bool.true_and, Bool.true_and]
end
/- pins -/
structure PinG (v : Venue) (L : List Party) (P : List Pin) (i : Nat) : Prop where
  lo : 0 ≤ (aI P (i : Int)).Party
  hi : (aI P (i : Int)).Party < L.length
  rise : 0 < i → (aI P ((i - 1 : Nat) : Int)).Party < (aI P (i : Int)).Party
  pl : plB v (aI L (aI P (i : Int)).Party) (aI P (i : Int)).First = true
  ap : ∀ j : Nat, j < i → aptB v (aI L (aI P (i : Int)).Party) (aI P (i : Int)).First (aI L (aI P (j : Int)).Party) (aI P (j : Int)).First = true
abbrev PinOK (v : Venue) (L : List Party) (P : List Pin) : Prop := ∀ i, i < P.length → PinG v L P i
theorem PinOK.rise {v : Venue} {L : List Party} {P : List Pin} (h : PinOK v L P) : RiseP P := by
  intro i j hij hj
  obtain ⟨d, rfl⟩ : ∃ d, j = i + 1 + d := ⟨j - (i + 1), by omega⟩
  clear hij
  induction d with
  | zero =>
    have := (h (i + 1) hj).rise (by omega)
    exact this
  | succ d ih =>
    have := (h (i + 1 + (d + 1)) hj).rise (by omega)
    rw [show i + 1 + (d + 1) - 1 = i + 1 + d by omega] at this
    have := ih (by omega)
    omega
theorem PinOK_nil {v : Venue} {L : List Party} : PinOK v L [] := fun i hi => absurd hi (by simp)
section
variable {k : Nat} {v : Venue} {L : List Party} {P : List Pin}
/-- What `In` asks for. -/
abbrev InOK (v : Venue) (L : List Party) (P : List Pin) : Prop := MayV v ∧ PinOK v L P ∧ AllMay L
theorem plan_In_eq (hv : Small k v) (hk : 1000 < k) (hL : L.length < k) (hP : P.length < k) (ho : ∀ i : Nat, i < P.length → okI (aI P (i : Int)).First) : ∃ S, plan_In k v L P = some (S, dB (InOK v L P)) ∧ (InOK v L P → S = PlanSet.mk (PlaceHall.mk v (usL v)) L (pmN P P.length)) := by
  have hb := hv.b
  unfold plan_In
  rw [bindS (place_In_eq hv)]
  cases hm : mayB v
  · refine ⟨PlanSet.mk (PlaceHall.mk v []) L [], ?_, fun h => absurd (mayB_iff.2 h.1) (by rw [hm]; simp)⟩
    rw [dB_F (fun h => by rw [mayB_iff.2 h.1] at hm; cases hm)]
    rfl
  have hM := mayB_iff.1 hm
  rw [cNT, bindS (party_All_eq hL hb), bindS rfl, cond_true]
  rcases Classical.em (¬ AllMay L) with hA | hA
  · refine ⟨PlanSet.mk (PlaceHall.mk v (usL v)) L [], ?_, fun h => absurd h.2.2 hA⟩
    rw [dB_F hA, cNF, dB_F (fun h => hA h.2.2)]
  have hA := Classical.not_not.1 hA
  rw [dB_T hA, cNT]
  have h3 : ∀ (i : Nat) (w : List (Int × Int)), i < P.length → PinG v L P i ∨ (0 ≤ (aI P (i : Int)).Party ∧ (aI P (i : Int)).Party < L.length ∧ plB v (aI L (aI P (i : Int)).Party) (aI P (i : Int)).First = true) → (∀ j, j < i → PinG v L P j) → plan_In_l3 k L (PlaceHall.mk v (usL v), true) w (aI P (i : Int)) ((P.drop 0).take i) k 0 = some (if dB (∀ j : Nat, j < i → aptB v (aI L (aI P (i : Int)).Party) (aI P (i : Int)).First (aI L (aI P (j : Int)).Party) (aI P (j : Int)).First = true) = true then .go () else .rt (PlanSet.mk (PlaceHall.mk v (usL v)) L w, false)) := fun i w hi h1 hG => by
    have h1 : 0 ≤ (aI P (i : Int)).Party ∧ (aI P (i : Int)).Party < L.length ∧ plB v (aI L (aI P (i : Int)).Party) (aI P (i : Int)).First = true := by
      rcases h1 with h | h
      · exact ⟨h.lo, h.hi, h.pl⟩
      · exact h
    have hl : ((P.drop 0).take i).length = i := by rw [List.drop_zero, List.length_take]; omega
    have hx : ∀ j : Nat, j < i → idx ((P.drop 0).take i) (j : Int) = some (aI P (j : Int)) := fun j hj => by
      refine idx_get (by omega) ?_
      rw [Int.toNat_natCast, List.drop_zero, List.getElem?_take_of_lt hj]
      unfold aI
      rw [Int.toNat_natCast, List.getD_eq_getElem?_getD, List.getElem?_eq_getElem (by omega)]
      rfl
    exact scanB (F := fun n j => plan_In_l3 k L (PlaceHall.mk v (usL v), true) w (aI P (i : Int)) ((P.drop 0).take i) n (j : Int)) (len := i) (k := k) (fun j => aptB v (aI L (aI P (i : Int)).Party) (aI P (i : Int)).First (aI L (aI P (j : Int)).Party) (aI P (j : Int)).First = true) (t := ()) (r := (PlanSet.mk (PlaceHall.mk v (usL v)) L w, false))
      (fun n j hj _ hg => by
        have hGj := hG j hj
        rw [plan_In_l3, condD (by omega), bindS (hx j hj), bindS (idx_aI h1.1 h1.2.1), bindS (idx_aI hGj.lo hGj.hi), bindS (hall_Apart hv hM hk h1.2.2 hGj.pl), hg, cNT, wr_succ (by omega)])
      (fun n j hj _ hg => by
        have hGj := hG j hj
        rw [plan_In_l3, condD (by omega), bindS (hx j hj), bindS (idx_aI h1.1 h1.2.1), bindS (idx_aI hGj.lo hGj.hi), bindS (hall_Apart hv hM hk h1.2.2 hGj.pl), Bool.eq_false_iff.2 hg, cNF])
      (fun n _ => by
        rw [plan_In_l3, condN (by omega)]) (by omega)
  have step : ∀ (n i : Nat) (w : List (Int × Int)), i < P.length → (∀ j, j < i → PinG v L P j) → plan_In_l2 k L P (PlaceHall.mk v (usL v), true) (n + 1) w (i : Int) = if dB (PinG v L P i) = true then plan_In_l2 k L P (PlaceHall.mk v (usL v), true) n (mset w (aI P (i : Int)).Party (aI P (i : Int)).First) ((i + 1 : Nat) : Int) else some (.rt (PlanSet.mk (PlaceHall.mk v (usL v)) L w, false)) := fun n i w hi hG => by
    rw [plan_In_l2, condD (by omega), bindS (idx_aI (by omega) (by omega))]
    have key : (0 < i → (aI P ((i - 1 : Nat) : Int)).Party < (aI P (i : Int)).Party) → ∀ (X : Option (Ex (List (Int × Int)) (PlanSet × Bool))),
        (Option.bind (cond (decide ((aI P (i : Int)).Party < 0)) (some true) (some (decide ((L.length : Int) ≤ (aI P (i : Int)).Party)))) fun o154 => cond o154 (some (Ex.rt (PlanSet.mk (PlaceHall.mk v (usL v)) L w, false))) (Option.bind (idx L (aI P (i : Int)).Party) fun y175 => Option.bind (place_Hall_Seats k (PlaceHall.mk v (usL v)) y175 (aI P (i : Int)).First) fun r177 => cond (!r177.2) (some (Ex.rt (PlanSet.mk (PlaceHall.mk v (usL v)) L w, false))) (Option.bind (slc P 0 (i : Int)) fun y181 => Option.bind (plan_In_l3 k L (PlaceHall.mk v (usL v), true) w (aI P (i : Int)) y181 k 0) fun o204 => Ex.elim o204 (fun v207 => X) (fun rr => some (Ex.rt rr))))) = if dB (PinG v L P i) = true then X else some (.rt (PlanSet.mk (PlaceHall.mk v (usL v)) L w, false)) := fun hr X => by
      by_cases h1 : (aI P (i : Int)).Party < 0
      · rw [condD h1, bindS rfl, condT rfl, dB_F (fun h => by have := h.lo; omega), if_neg (by simp)]
      by_cases h2 : (L.length : Int) ≤ (aI P (i : Int)).Party
      · rw [condN h1, bindS rfl, condD h2, dB_F (fun h => by have := h.hi; omega), if_neg (by simp)]
      obtain ⟨l, el⟩ := hall_Seats2 hv hM hk (aI L (aI P (i : Int)).Party) (ho i hi)
      rw [condN h1, bindS rfl, condN h2, bindS (idx_aI (l := L) (by omega) (by omega)), bindS el]
      cases hp : plB v (aI L (aI P (i : Int)).Party) (aI P (i : Int)).First
      · rw [cNF, dB_F (fun h => by have := h.pl; rw [hp] at this; cases this), if_neg (by simp)]
      · have hs : slc P 0 (i : Int) = some ((P.drop 0).take i) := by
          rw [slc_eq ⟨by omega, by omega, by omega⟩, show (i : Int).toNat - (0 : Int).toNat = i by omega]
          rfl
        rw [cNT, bindS hs, bindS (h3 i w hi (.inr ⟨by omega, by omega, hp⟩) hG)]
        rcases Classical.em (∀ j : Nat, j < i → aptB v (aI L (aI P (i : Int)).Party) (aI P (i : Int)).First (aI L (aI P (j : Int)).Party) (aI P (j : Int)).First = true) with h | h
        · rw [dB_T h, if_pos rfl, elim_go, dB_T ⟨by omega, by omega, hr, hp, h⟩, if_pos rfl]
        · rw [dB_F h, if_neg (by simp), elim_rt, dB_F (fun x => h x.ap), if_neg (by simp)]
    by_cases h0 : 0 < i
    · rw [condD (by omega), wr_pred h0 (by omega), bindS (idx_aI (x := ((i - 1 : Nat) : Int)) (by omega) (by omega))]
      by_cases h4 : (aI P (i : Int)).Party ≤ (aI P ((i - 1 : Nat) : Int)).Party
      · rw [condD h4, bindS rfl, condT rfl, dB_F (fun h => by have := h.rise h0; omega), if_neg (by simp)]
      · rw [condN h4, key (fun _ => by omega), wr_succ (by omega)]
    · rw [condN (by omega), key (fun h => absurd h h0), wr_succ (by omega)]
  have e := scanF0 (F := fun n i => plan_In_l2 k L P (PlaceHall.mk v (usL v), true) n (pmN P i) (i : Int)) (len := P.length) (k := k) (fun i => PinG v L P i) (t := pmN P P.length) (fun i => (PlanSet.mk (PlaceHall.mk v (usL v)) L (pmN P i), false))
    (fun n i hi hG hg => by
      rw [step n i _ hi hG, dB_T hg, if_pos rfl, pmN])
    (fun n i hi hG hg => by
      rw [step n i _ hi hG, dB_F hg, if_neg (by simp)])
    (fun n _ => by
      rw [plan_In_l2, condN (by omega)]) hP
  have e : plan_In_l2 k L P (PlaceHall.mk v (usL v), true) k [] 0 = _ := e
  rw [bindS e]
  rcases Classical.em (PinOK v L P) with h | h
  · rw [if_pos (fstF_all.2 h), elim_go, dB_T ⟨hM, h, hA⟩]
    exact ⟨_, rfl, fun _ => rfl⟩
  · rw [if_neg (fun x => h (fstF_all.1 x)), elim_rt, dB_F (fun x => h x.2.1)]
    exact ⟨_, rfl, fun x => absurd x.2.1 h⟩
/- plans -/
structure OkAt (v : Venue) (L : List Party) (P : List Pin) (r : List Int) (i : Nat) : Prop where
  pin : ∀ f, pinAt P (i : Int) = some f → aI r (i : Int) = f
  pl : ¬ aI r (i : Int) = -1 → plB v (aI L (i : Int)) (aI r (i : Int)) = true
  ap : ¬ aI r (i : Int) = -1 → ∀ j : Nat, j < i → ¬ aI r (j : Int) = -1 → aptB v (aI L (i : Int)) (aI r (i : Int)) (aI L (j : Int)) (aI r (j : Int)) = true
theorem plan_Set_wrong_eq (hv : Small k v) (hM : MayV v) (hk : 1000 < k) {r : List Int} (hr : r.length ≤ L.length) {i : Nat} (hi : i < r.length) (hik : i < k) (hb : r.length ≤ 4294967290) (ho : okI (aI r (i : Int))) (hG : ∀ j, j < i → OkAt v L P r j) : plan_Set_wrong k (PlanSet.mk (PlaceHall.mk v (usL v)) L (pmN P P.length)) r (i : Int) = some (!dB (OkAt v L P r i)) := by
  unfold plan_Set_wrong
  have hpin : ((∀ f, pinAt P (i : Int) = some f → aI r (i : Int) = f) ∧ (cond ((mget (pmN P P.length) (i : Int)).isSome) (Option.bind (idx r (i : Int)) fun y8 => some (!decide (y8 = ((mget (pmN P P.length) (i : Int)).getD 0)))) (some false)) = some false) ∨ ((¬ ∀ f, pinAt P (i : Int) = some f → aI r (i : Int) = f) ∧ (cond ((mget (pmN P P.length) (i : Int)).isSome) (Option.bind (idx r (i : Int)) fun y8 => some (!decide (y8 = ((mget (pmN P P.length) (i : Int)).getD 0)))) (some false)) = some true) := by
    show _ ∨ _
    unfold pinAt
    cases hp : mget (pmN P P.length) (i : Int) with
    | none => exact .inl ⟨fun f h => (by cases h), rfl⟩
    | some f =>
      rw [Option.isSome_some, cond_true, bindS (idx_aI (by omega) (by omega))]
      by_cases h : aI r (i : Int) = f
      · exact .inl ⟨fun f' h' => by cases h'; exact h, by rw [Option.getD_some, decide_eq_true h]; rfl⟩
      · exact .inr ⟨fun h' => h (h' f rfl), by rw [Option.getD_some, decide_eq_false h]; rfl⟩
  rcases hpin with ⟨h1, e1⟩ | ⟨h1, e1⟩
  · rw [bindS e1, cond_false, bindS (idx_aI (by omega) (by omega))]
    by_cases h2 : aI r (i : Int) = -1
    · rw [condD h2, dB_T ⟨h1, fun h => absurd h2 h, fun h => absurd h2 h⟩]
      rfl
    · obtain ⟨l, el⟩ := hall_Seats2 hv hM hk (aI L (i : Int)) ho
      rw [condN h2, bindS (idx_aI (l := L) (by omega) (by omega)), bindS (idx_aI (by omega) (by omega)), bindS el]
      cases hp : plB v (aI L (i : Int)) (aI r (i : Int))
      · rw [cNF, dB_F (fun h => by have := h.pl h2; rw [hp] at this; cases this)]
        rfl
      · have e := scanB (F := fun n j => plan_Set_wrong_l0 k (PlanSet.mk (PlaceHall.mk v (usL v)) L (pmN P P.length)) r (i : Int) n (j : Int)) (len := i) (k := k) (fun j => ¬ aI r (j : Int) = -1 → aptB v (aI L (i : Int)) (aI r (i : Int)) (aI L (j : Int)) (aI r (j : Int)) = true) (t := ()) (r := true)
          (fun n j hj _ hg => by
            rw [plan_Set_wrong_l0, condD (by omega), bindS (idx_aI (by omega) (by omega)), wr_succ (by omega)]
            by_cases hj1 : aI r (j : Int) = -1
            · rw [condNT hj1]
            · rw [condNF hj1, bindS (idx_aI (l := L) (by omega) (by omega)), bindS (idx_aI (by omega) (by omega)), bindS (idx_aI (l := L) (by omega) (by omega)), bindS (idx_aI (by omega) (by omega)), bindS (hall_Apart hv hM hk hp ((hG j hj).pl hj1)), hg hj1, cNT])
          (fun n j hj _ hg => by
            obtain ⟨hj1, hj2⟩ := Classical.not_imp.1 hg
            rw [plan_Set_wrong_l0, condD (by omega), bindS (idx_aI (by omega) (by omega)), condNF hj1, bindS (idx_aI (l := L) (by omega) (by omega)), bindS (idx_aI (by omega) (by omega)), bindS (idx_aI (l := L) (by omega) (by omega)), bindS (idx_aI (by omega) (by omega)), bindS (hall_Apart hv hM hk hp ((hG j hj).pl hj1)), Bool.eq_false_iff.2 hj2, cNF])
          (fun n _ => by
            rw [plan_Set_wrong_l0, condN (by omega)]) hik
        have e : plan_Set_wrong_l0 k (PlanSet.mk (PlaceHall.mk v (usL v)) L (pmN P P.length)) r (i : Int) k 0 = _ := e
        rw [cNT, bindS e]
        rcases Classical.em (∀ j : Nat, j < i → ¬ aI r (j : Int) = -1 → aptB v (aI L (i : Int)) (aI r (i : Int)) (aI L (j : Int)) (aI r (j : Int)) = true) with h | h
        · rw [dB_T h, if_pos rfl, elim_go, dB_T ⟨h1, fun _ => hp, fun _ => h⟩]
          rfl
        · rw [dB_F h, if_neg (by simp), elim_rt, dB_F (fun x => h (x.ap h2))]
          rfl
  · rw [bindS e1, cond_true, dB_F (fun h => h1 h.pin)]
    rfl
/-- The first party that is wrong; -1 if there is none. -/
noncomputable def badI (v : Venue) (L : List Party) (P : List Pin) (r : List Int) : Int := fstF (OkAt v L P r) r.length 0
theorem elim_fst {n : Nat} {g : Nat → Prop} : (Ex.elim (if fstF g n 0 = -1 then (Ex.go () : Ex Unit Int) else .rt (((fstF g n 0).toNat : Nat) : Int)) (fun _ => some (-1 : Int)) (fun rr => some rr)) = some (fstF g n 0) := by
  by_cases h : fstF g n 0 = -1
  · rw [if_pos h, elim_go, h]
  · rw [if_neg h, elim_rt]
    have : ∀ d i : Nat, -1 ≤ fstF g d i := by
      intro d
      induction d with
      | zero => intro i; rw [fstF]; omega
      | succ d ih =>
        intro i
        rw [fstF]
        split
        · exact ih _
        · omega
    have := this n 0
    congr 1
    omega
theorem plan_Set_First_eq (hv : Small k v) (hM : MayV v) (hk : 1000 < k) {r : List Int} (hr : r.length ≤ L.length) (hrk : r.length < k) (ho : ∀ i : Nat, i < r.length → okI (aI r (i : Int))) : plan_Set_First k (PlanSet.mk (PlaceHall.mk v (usL v)) L (pmN P P.length)) r = some (badI v L P r) := by
  have hb := hv.b
  unfold plan_Set_First badI
  have e := scanF0 (F := fun n i => plan_Set_First_l0 k (PlanSet.mk (PlaceHall.mk v (usL v)) L (pmN P P.length)) r n (i : Int)) (len := r.length) (k := k) (OkAt v L P r) (t := ()) (fun i => (i : Int))
    (fun n i hi hG hg => by
      rw [plan_Set_First_l0, condD (by omega), bindS (plan_Set_wrong_eq hv hM hk hr hi (by omega) (by omega) (ho i hi) hG), dB_T hg, wr_succ (by omega)]
      rfl)
    (fun n i hi hG hg => by
      rw [plan_Set_First_l0, condD (by omega), bindS (plan_Set_wrong_eq hv hM hk hr hi (by omega) (by omega) (ho i hi) hG), dB_F hg]
      rfl)
    (fun n _ => by
      rw [plan_Set_First_l0, condN (by omega)]) hrk
  have e : plan_Set_First_l0 k (PlanSet.mk (PlaceHall.mk v (usL v)) L (pmN P P.length)) r k 0 = _ := e
  rw [bindS e, elim_fst]
open Classical in
/-- What both tell of a plan. -/
noncomputable def wrongV (v : Venue) (L : List Party) (P : List Pin) (r : List Int) : Int := if InOK v L P ∧ r.length = L.length then badI v L P r else L.length
theorem plan_Wrong_eq (hv : Small k v) (hk : 1000 < k) (hL : L.length < k) (hP : P.length < k) (ho : ∀ i : Nat, i < P.length → okI (aI P (i : Int)).First) {r : List Int} (hr : ∀ i : Nat, i < r.length → okI (aI r (i : Int))) : plan_Wrong k v L r P = some (wrongV v L P r) := by
  unfold plan_Wrong wrongV
  obtain ⟨S, e, hS⟩ := plan_In_eq hv hk hL hP ho
  rw [bindS e]
  rcases Classical.em (InOK v L P) with h | h
  · rw [dB_T h, cNT]
    by_cases hl : (r.length : Int) = L.length
    · rw [condNT hl, bindS rfl, elim_go, hS h, if_pos ⟨h, by omega⟩, bindS (plan_Set_First_eq hv h.1 hk (by omega) (by omega) hr)]
    · rw [condNF hl, bindS rfl, elim_rt, if_neg (fun x => hl (by omega))]
  · rw [dB_F h, cNF, bindS rfl, elim_rt, if_neg (fun x => h x.1)]
/-- A plan that may be. -/
structure PlanP (v : Venue) (L : List Party) (P : List Pin) (r : List Int) : Prop where
  inn : InOK v L P
  len : r.length = L.length
  at_ : ∀ i, i < r.length → OkAt v L P r i
theorem wrongV_iff {r : List Int} : wrongV v L P r = -1 ↔ PlanP v L P r := by
  unfold wrongV
  split
  · rename_i h
    unfold badI
    rw [fstF_all]
    exact ⟨fun x => ⟨h.1, h.2, x⟩, fun x => x.at_⟩
  · rename_i h
    exact ⟨fun x => by omega, fun x => absurd ⟨x.inn, x.len⟩ h⟩
theorem plan_May_eq (hv : Small k v) (hk : 1000 < k) (hL : L.length < k) (hP : P.length < k) (ho : ∀ i : Nat, i < P.length → okI (aI P (i : Int)).First) {r : List Int} (hr : ∀ i : Nat, i < r.length → okI (aI r (i : Int))) : plan_May k v L r P = some (dB (PlanP v L P r)) := by
  unfold plan_May
  rw [bindS (plan_Wrong_eq hv hk hL hP ho hr)]
  rcases Classical.em (PlanP v L P r) with h | h
  · rw [dB_T h, decide_eq_true (wrongV_iff.2 h)]
  · rw [dB_F h, decide_eq_false (fun x => h (wrongV_iff.1 x))]
end
end Go.Px

set_option linter.unusedVariables false
set_option linter.unusedSimpArgs false
namespace Go.Px
open Go Go.Sh
theorem aI_lt {α : Type} [Inhabited α] {l m : List α} {i : Nat} (h : i < l.length) : aI (l ++ m) (i : Int) = aI l (i : Int) := by
  unfold aI
  rw [Int.toNat_natCast, List.getD_eq_getElem?_getD, List.getD_eq_getElem?_getD, List.getElem?_append_left h]
theorem aI_last {α : Type} [Inhabited α] {l : List α} {x : α} {i : Nat} (h : i = l.length) : aI (l ++ [x]) (i : Int) = x := by
  unfold aI
  rw [Int.toNat_natCast, List.getD_eq_getElem?_getD, h, List.getElem?_append_right (Nat.le_refl _), Nat.sub_self]
  rfl
theorem aI_set {α : Type} [Inhabited α] {l : List α} {i j : Nat} {x : α} (h : i < l.length) : aI (l.set i x) (j : Int) = if j = i then x else aI l (j : Int) := by
  unfold aI
  rw [Int.toNat_natCast, List.getD_eq_getElem?_getD, List.getD_eq_getElem?_getD]
  split
  · rename_i hj
    rw [hj, List.getElem?_set_self h]
    rfl
  · rename_i hj
    rw [List.getElem?_set_ne (fun e => hj e.symm)]
/-- A small problem. -/
structure Prob (v : Venue) (L : List Party) : Prop where
  may : MayV v
  n1 : v.Seats.length ≤ 9
  kl : v.Kills.length ≤ 9
  pl : v.Poles.length ≤ 9
  rad : InP v.Radius 0 24
  l4 : L.length ≤ 4
  ps : ∀ i : Nat, i < L.length → MayP (aI L (i : Int)) ∧ (aI L (i : Int)).Size ≤ 3
theorem Prob.all {v : Venue} {L : List Party} (h : Prob v L) : AllMay L := ⟨by have := h.l4; omega, fun i hi => (h.ps i hi).1⟩
theorem Prob.small {v : Venue} {L : List Party} (h : Prob v L) {k : Nat} (h1 : 9 < k) (h2 : k ≤ 4294967290) : Small k v := ⟨by have := h.n1; omega, by have := h.kl; omega, by have := h.pl; omega, h2, by omega⟩
theorem Prob.inn {v : Venue} {L : List Party} (h : Prob v L) {P : List Pin} (hP : PinOK v L P) : InOK v L P := ⟨h.may, hP, h.all⟩
theorem small_l0 (k : Nat) (l : List Int) : ∀ (d n i : Nat) (w : List Party), i + d = 4 → d < n → w.length = i → (∀ j : Nat, j < w.length → MayP (aI w (j : Int)) ∧ (aI w (j : Int)).Size ≤ 3) → ∃ o, law12_Small_l0 k l n w (i : Int) = some o ∧ o.length ≤ 4 ∧ ∀ j : Nat, j < o.length → MayP (aI o (j : Int)) ∧ (aI o (j : Int)).Size ≤ 3
  | d, 0, i, w, _, h, _, _ => absurd h (by omega)
  | 0, n + 1, i, w, hi, _, hw, hp => by
    rw [law12_Small_l0]
    by_cases h : (i : Int) < (l.length : Int)
    · rw [condD h, condN (by omega)]
      exact ⟨w, rfl, by omega, hp⟩
    · rw [condN h]
      exact ⟨w, rfl, by omega, hp⟩
  | d + 1, n + 1, i, w, hi, hd, hw, hp => by
    rw [law12_Small_l0]
    by_cases h : (i : Int) < (l.length : Int)
    · obtain ⟨u0, u1⟩ := um (aI l (i : Int)) 3 (by omega)
      rw [condD h, condD (by omega), bindS (idx_aI (by omega) h), wr_id (x := (IntKind.u64.wrap (aI l (i : Int))).tmod 3) (by omega) (by omega), wr_id (x := 1 + (IntKind.u64.wrap (aI l (i : Int))).tmod 3) (by omega) (by omega), wr_succ (by omega)]
      generalize (IntKind.u64.wrap (aI l (i : Int))).tmod 3 = q at u0 u1
      generalize ((IntKind.u64.wrap ((IntKind.u64.wrap (aI l (i : Int))).tdiv 3)).tmod 4) = q2
      have hgo : ∀ p : Party, MayP p ∧ p.Size ≤ 3 → ∃ o, (gd (decide (w.length + ([p]).length ≤ 4294967296)) (law12_Small_l0 k l n (w ++ [p]) ((i + 1 : Nat) : Int))) = some o ∧ o.length ≤ 4 ∧ ∀ j : Nat, j < o.length → MayP (aI o (j : Int)) ∧ (aI o (j : Int)).Size ≤ 3 := fun p hpp => by
        rw [gdD (by simp only [List.length_singleton]; omega)]
        refine small_l0 k l d n (i + 1) (w ++ [p]) (by omega) (by omega) (by simp [hw]) fun j hj => ?_
        rw [List.length_append, List.length_singleton] at hj
        by_cases hjw : j < w.length
        · rw [aI_lt hjw]; exact hp j hjw
        · rw [aI_last (by omega)]; exact hpp
      by_cases h2 : q2 = 0
      · rw [condD h2, bindS rfl]
        by_cases h3 : 1 < 1 + q
        · rw [condD h3]
          exact hgo _ ⟨⟨by simp only; omega, by simp only; omega, by simp only; omega, by simp only; omega, by simp only; omega⟩, by simp only; omega⟩
        · rw [condN h3]
          exact hgo _ ⟨⟨by simp only; omega, by simp only; omega, by simp only; omega, by simp only; omega, by simp only; omega⟩, by simp only; omega⟩
      · rw [condN h2, bindS rfl, cond_false]
        exact hgo _ ⟨⟨by simp only; omega, by simp only; omega, by simp only; omega, by simp only; omega, by simp only; omega⟩, by simp only; omega⟩
    · rw [condN h]
      exact ⟨w, rfl, by omega, hp⟩
theorem law12_Small_eq {k : Nat} (l m : List Int) (hk : 100 ≤ k) : ∃ v L, law12_Small k l m = some (v, L) ∧ Prob v L := by
  obtain ⟨v, e, hv⟩ := law3_Make_eq k l 9 (by omega) (by omega) (by omega)
  have e : law3_Make k l 9 = some v := e
  obtain ⟨L, eL, hL1, hL2⟩ := small_l0 k m 4 k 0 [] (by omega) (by omega) rfl (fun j hj => absurd hj (by simp))
  have eL : law12_Small_l0 k m k [] 0 = some L := eL
  have h6 : ∃ b, (cond (decide (0 < (m.length : Int))) (Option.bind (idx m 0) fun y10 => some (!decide ((y10.tmod 3) = 0))) (some false)) = some b := by
    by_cases h : 0 < (m.length : Int)
    · rw [condD h, bindS (idx_aI (by omega) h)]; exact ⟨_, rfl⟩
    · rw [condN h]; exact ⟨_, rfl⟩
  obtain ⟨b, eb⟩ := h6
  have h13 : ∃ r, cond b (some (v.Radius.tmod 12)) (some v.Radius) = some r ∧ InP r 0 24 := by
    have hr := hv.rad
    cases b
    · exact ⟨_, rfl, hr⟩
    · refine ⟨_, rfl, Int.tmod_nonneg _ hr.1, ?_⟩
      have := Int.tmod_lt_of_pos v.Radius (b := 12) (by omega)
      omega
  obtain ⟨r, er, hr⟩ := h13
  unfold law12_Small
  rw [bindS e, bindS eb, bindS er, bindS eL]
  have hM := hv.may
  exact ⟨_, _, rfl, ⟨hM.seats, hM.n0, hM.n1, hM.gap, by show InP r 0 1048576; omega, hM.kills, hM.k1, hM.poles, hM.p1⟩, hv.n1, hv.kl, hv.pl, hr, hL1, hL2⟩
/- all plans -/
section
variable {k : Nat} {v : Venue} {L : List Party}
/- persons -/
def seatN (L : List Party) (r : List Int) : Nat → Int
  | 0 => 0
  | n + 1 => seatN L r n + if 0 ≤ aI r (n : Int) then (aI L (n : Int)).Size else 0
end
end Go.Px

set_option linter.unusedVariables false
set_option linter.unusedSimpArgs false
namespace Go.Px
open Go Go.Sh
theorem law12_told_eq : law12_told 20000 = some true := by decide +kernel
section
variable {v : Venue} {L : List Party}
theorem PlanP.pins {P : List Pin} {r : List Int} (h : PlanP v L [] r) (hP : PinOK v L P) (hh : ∀ i : Nat, i < P.length → aI r (aI P (i : Int)).Party = (aI P (i : Int)).First) : PlanP v L P r :=
  ⟨⟨h.inn.1, hP, h.inn.2.2⟩, h.len, fun i hi => ⟨fun f hf => by
    obtain ⟨j, h1, h2, h3⟩ := pinAt_some hf
    have := hh j h1
    rw [h2] at this
    rw [this, h3], (h.at_ i hi).pl, (h.at_ i hi).ap⟩⟩
theorem PlanP.held {P : List Pin} {r : List Int} (h : PlanP v L P r) {i : Nat} (hi : i < P.length) : aI r (aI P (i : Int)).Party = (aI P (i : Int)).First := by
  have hG := h.inn.2.1 i hi
  have h1 := hG.lo
  have h2 := hG.hi
  have := (h.at_ (aI P (i : Int)).Party.toNat (by rw [h.len]; omega)).pin (aI P (i : Int)).First
  rw [show (((aI P (i : Int)).Party.toNat : Nat) : Int) = (aI P (i : Int)).Party by omega] at this
  exact this (pinAt_get h.inn.2.1.rise hi)
end
end Go.Px

set_option linter.unusedVariables false
set_option linter.unusedSimpArgs false
namespace Go.Px
open Go Go.Sh
def setR (f : List Int) (s : Nat) (x : Int) : Nat → List Int
  | 0 => f
  | m + 1 => (setR f s x m).set (s + m) x
theorem setR_len {f : List Int} {s : Nat} {x : Int} : ∀ {m : Nat}, (setR f s x m).length = f.length
  | 0 => rfl
  | m + 1 => by rw [setR, List.length_set, setR_len]
theorem setR_at {f : List Int} {s : Nat} {x : Int} {q : Nat} : ∀ {m : Nat}, s + m ≤ f.length → aI (setR f s x m) (q : Int) = if s ≤ q ∧ q < s + m then x else aI f (q : Int)
  | 0, _ => by rw [setR, if_neg (by omega)]
  | m + 1, h => by
    rw [setR, aI_set (by rw [setR_len]; omega), setR_at (by omega)]
    by_cases h1 : q = s + m
    · rw [if_pos h1, if_pos (by omega)]
    · rw [if_neg h1]
      by_cases h2 : s ≤ q ∧ q < s + m
      · rw [if_pos h2, if_pos (by omega)]
      · rw [if_neg h2, if_neg (by omega)]
theorem aI_nat {α : Type} [Inhabited α] {l : List α} {q : Nat} (h : q < l.length) : aI l (q : Int) = l[q] := by
  unfold aI
  rw [Int.toNat_natCast, List.getD_eq_getElem?_getD, List.getElem?_eq_getElem h]
  rfl
theorem setR_count {f : List Int} {s : Nat} {x : Int} (hx : ¬ x = 0) (y : Int) : ∀ {m : Nat}, s + m ≤ f.length → (∀ q : Nat, s ≤ q → q < s + m → aI f (q : Int) = 0) → (setR f s x m).count y + (if y = 0 then m else 0) = f.count y + (if y = x then m else 0)
  | 0, _, _ => by rw [setR]; simp
  | m + 1, h, h0 => by
    have ih := setR_count hx y (m := m) (by omega) (fun q a b => h0 q a (by omega))
    have hz : (setR f s x m)[s + m]'(by rw [setR_len]; omega) = 0 := by
      rw [← aI_nat, setR_at (by omega), if_neg (by omega)]
      exact h0 (s + m) (by omega) (by omega)
    rw [setR, List.count_set (by rw [setR_len]; omega), hz]
    have hpos : y = 0 → 0 < (setR f s x m).count y := fun e => by
      rw [e]
      exact List.count_pos_iff.2 (by rw [← hz]; exact List.getElem_mem _)
    by_cases e0 : y = 0
    · have := hpos e0
      subst e0
      rw [if_pos rfl] at ih
      rw [if_pos rfl, if_pos (by simp), if_neg (by simpa using hx), if_neg (fun e => hx e.symm)]
      rw [if_neg (fun e => hx e.symm)] at ih
      omega
    · rw [if_neg e0] at ih ⊢
      rw [if_neg (by simpa using fun e => e0 e.symm)]
      by_cases e1 : y = x
      · rw [if_pos e1] at ih ⊢
        rw [if_pos (by simpa using e1.symm)]
        omega
      · rw [if_neg e1] at ih ⊢
        rw [if_neg (by simpa using fun e => e1 e.symm)]
        omega
/-- A seat of a party's. -/
def rg (L : List Party) (r : List Int) (j : Nat) (s : Int) : Prop := 0 ≤ aI r (j : Int) ∧ aI r (j : Int) ≤ s ∧ s < aI r (j : Int) + (aI L (j : Int)).Size
def DisjP (v : Venue) (L : List Party) (r : List Int) (i : Nat) : Prop := ∀ j, j < i → 0 ≤ aI r (j : Int) → plB v (aI L (j : Int)) (aI r (j : Int)) = true ∧ ∀ j', j' < j → ∀ s, rg L r j s → ¬ rg L r j' s
theorem DisjP.mono {v : Venue} {L : List Party} {r : List Int} {i j : Nat} (h : DisjP v L r i) (hj : j ≤ i) : DisjP v L r j := fun a ha => h a (by omega)
def ownSt (n : Nat) (L : List Party) (r : List Int) : Nat → List Int
  | 0 => List.replicate n 0
  | i + 1 => if 0 ≤ aI r (i : Int) then setR (ownSt n L r i) (aI r (i : Int)).toNat ((i : Int) + 1) (aI L (i : Int)).Size.toNat else ownSt n L r i
theorem ownSt_len {n : Nat} {L : List Party} {r : List Int} : ∀ {i : Nat}, (ownSt n L r i).length = n
  | 0 => by rw [ownSt, List.length_replicate]
  | i + 1 => by
    rw [ownSt]
    split
    · rw [setR_len, ownSt_len]
    · exact ownSt_len
section
variable {k : Nat} {v : Venue} {L : List Party} {r : List Int}
structure OwnF (v : Venue) (L : List Party) (r : List Int) (i : Nat) (f : List Int) : Prop where
  none : ∀ s : Nat, s < v.Seats.length → (∀ j, j < i → ¬ rg L r j (s : Int)) → aI f (s : Int) = 0
  some : ∀ s : Nat, ∀ j, j < i → rg L r j (s : Int) → aI f (s : Int) = (j : Int) + 1
  zero : (f.count 0 : Int) + seatN L r i = v.Seats.length
  cnt : ∀ j : Nat, (f.count ((j : Int) + 1) : Int) = if j < i ∧ 0 ≤ aI r (j : Int) then (aI L (j : Int)).Size else 0
theorem own_F (hv : Small k v) : ∀ {i : Nat}, DisjP v L r i → OwnF v L r i (ownSt v.Seats.length L r i)
  | 0, _ => by
    refine ⟨fun s hs _ => ?_, fun s j hj => absurd hj (by omega), ?_, fun j => ?_⟩
    · rw [ownSt, aI_nat (by rw [List.length_replicate]; exact hs), List.getElem_replicate]
    · rw [ownSt, List.count_replicate, seatN]; simp
    · have h1 : ¬ ((0 : Int) == (j : Int) + 1) = true := fun e => by
        have := eq_of_beq e
        omega
      rw [ownSt, List.count_replicate, if_neg h1, if_neg (by omega)]
      rfl
  | i + 1, hD => by
    have ih := own_F hv (hD.mono (Nat.le_succ i))
    rw [ownSt]
    by_cases h : 0 ≤ aI r (i : Int)
    · obtain ⟨hp, hd⟩ := hD i (by omega) h
      obtain ⟨_, hm, h1, h2⟩ := plB_in hv hp
      have hfit : (aI r (i : Int)).toNat + (aI L (i : Int)).Size.toNat ≤ (ownSt v.Seats.length L r i).length := by rw [ownSt_len]; omega
      have h0 : ∀ q : Nat, (aI r (i : Int)).toNat ≤ q → q < (aI r (i : Int)).toNat + (aI L (i : Int)).Size.toNat → aI (ownSt v.Seats.length L r i) (q : Int) = 0 := fun q a b =>
        ih.none q (by omega) (fun j hj => hd j hj q ⟨h, by omega, by omega⟩)
      rw [if_pos h]
      refine ⟨fun s hs hn => ?_, fun s j hj hr => ?_, ?_, fun j => ?_⟩
      · have hni := hn i (by omega)
        rw [setR_at hfit, if_neg (fun x => hni ⟨h, by omega, by omega⟩)]
        exact ih.none s hs (fun j hj => hn j (by omega))
      · rw [setR_at hfit]
        by_cases hi : j = i
        · subst hi
          obtain ⟨a, b, c⟩ := hr
          rw [if_pos (by omega)]
        · rw [if_neg (fun x => hd j (by omega) s ⟨h, by omega, by omega⟩ hr)]
          exact ih.some s j (by omega) hr
      · have := setR_count (f := ownSt v.Seats.length L r i) (x := (i : Int) + 1) (by omega) 0 hfit h0
        rw [if_pos rfl, if_neg (by omega)] at this
        have hz := ih.zero
        rw [seatN, if_pos h]
        omega
      · have := setR_count (f := ownSt v.Seats.length L r i) (x := (i : Int) + 1) (by omega) ((j : Int) + 1) hfit h0
        rw [if_neg (by omega)] at this
        have hc := ih.cnt j
        by_cases hi : j = i
        · subst hi
          rw [if_neg (by omega)] at hc
          rw [if_pos rfl] at this
          rw [if_pos ⟨by omega, h⟩]
          omega
        · rw [if_neg (by omega)] at this
          by_cases h3 : j < i ∧ 0 ≤ aI r (j : Int)
          · rw [if_pos h3] at hc
            rw [if_pos ⟨by omega, h3.2⟩]
            omega
          · rw [if_neg h3] at hc
            rw [if_neg (fun x => h3 ⟨by omega, x.2⟩)]
            omega
    · rw [if_neg h]
      refine ⟨fun s hs hn => ih.none s hs (fun j hj => hn j (by omega)), fun s j hj hr => ?_, ?_, fun j => ?_⟩
      · by_cases hi : j = i
        · subst hi; exact absurd hr.1 h
        · exact ih.some s j (by omega) hr
      · have := ih.zero
        rw [seatN, if_neg h]
        omega
      · rw [ih.cnt j]
        by_cases hi : j = i
        · subst hi
          rw [if_neg (fun x => h x.2), if_neg (fun x => h x.2)]
        · by_cases h3 : j < i ∧ 0 ≤ aI r (j : Int)
          · rw [if_pos h3, if_pos ⟨by omega, h3.2⟩]
          · rw [if_neg h3, if_neg (fun x => h3 ⟨by omega, x.2⟩)]
/-- Of a plan that may be no seat has two owners. -/
theorem PlanP.disj (hv : Small k v) {P : List Pin} (h : PlanP v L P r) : DisjP v L r L.length := fun j hj h0 => by
  have hG := h.at_ j (by rw [h.len]; exact hj)
  refine ⟨hG.pl (by omega), fun j' hj' s hs hs' => ?_⟩
  have := hG.ap (by omega) j' hj' (fun e => by have := hs'.1; omega)
  unfold aptB at this
  rw [Bool.and_eq_true, Bool.and_eq_true] at this
  obtain ⟨p1, p2, p3⟩ := this
  obtain ⟨_, a1, a2, a3⟩ := plB_in hv p1
  obtain ⟨_, b1, b2, b3⟩ := plB_in hv p2
  obtain ⟨_, c1, c2⟩ := hs
  obtain ⟨_, d1, d2⟩ := hs'
  have := (apB_iff.1 p3 (s - aI r (j : Int)).toNat (by omega) (s - aI r (j' : Int)).toNat (by omega)).1
  exact this (by omega)
theorem owners_l3 (i : Nat) (hi : i ≤ 1000) {f : List Int} {s : Nat} {p : Party} {m : Nat} (hm : p.Size = m) (hf : s + m ≤ f.length) (hb : f.length ≤ 1000) : ∀ (d n j : Nat), j + d = m → d < n → plan_Owners_l3 k (i : Int) (s : Int) p n (setR f s ((i : Int) + 1) j) (j : Int) = some (setR f s ((i : Int) + 1) m)
  | d, 0, j, _, h => absurd h (by omega)
  | 0, n + 1, j, hj, _ => by
    rw [plan_Owners_l3, condN (by omega), show j = m by omega]
  | d + 1, n + 1, j, hj, hd => by
    have e : wr ((s : Int) + (j : Int)) = ((s + j : Nat) : Int) := by rw [wr_id (by omega) (by omega)]; omega
    rw [plan_Owners_l3, condD (by omega), condD (by omega), e, bindS (idx_aI (by omega) (by rw [setR_len]; omega)), wr_id (x := (i : Int) + 1) (by omega) (by omega), wr_succ (by omega), Int.toNat_natCast]
    exact owners_l3 i hi hm hf hb d n (j + 1) (by omega) (by omega)
theorem owners_l3_no (i : Nat) (hi : i ≤ 1000) {f : List Int} {s : Int} (hs : ¬ 0 ≤ s) {p : Party} {m : Nat} (hm : p.Size = m) (hb : m ≤ 1000) : ∀ (d n j : Nat), j + d = m → d < n → plan_Owners_l3 k (i : Int) s p n f (j : Int) = some f
  | d, 0, j, _, h => absurd h (by omega)
  | 0, n + 1, j, hj, _ => by
    rw [plan_Owners_l3, condN (by omega)]
  | d + 1, n + 1, j, hj, hd => by
    rw [plan_Owners_l3, condD (by omega), condN hs, wr_succ (by omega)]
    exact owners_l3_no i hi hs hm hb d n (j + 1) (by omega) (by omega)
theorem owners_l2 (hk : 1000 < k) (hv : Small k v) (hn : v.Seats.length ≤ 1000) (hL : L.length ≤ 1000) (hr : r.length = L.length) (hD : DisjP v L r L.length) (hA : AllMay L) : ∀ (d n i : Nat), i + d = L.length → d < n → plan_Owners_l2 k L r n (ownSt v.Seats.length L r i) (i : Int) = some (ownSt v.Seats.length L r L.length)
  | d, 0, i, _, h => absurd h (by omega)
  | 0, n + 1, i, hi, _ => by
    rw [plan_Owners_l2, condN (by omega), show i = L.length by omega]
  | d + 1, n + 1, i, hi, hd => by
    have hm := hA.2 i (by omega)
    rw [plan_Owners_l2, condD (by omega), bindS (idx_aI (by omega) (by omega)), bindS (idx_aI (by omega) (by omega)), wr_succ (by omega)]
    have ih := owners_l2 hk hv hn hL hr hD hA d n (i + 1) (by omega) (by omega)
    rw [ownSt] at ih
    by_cases h : 0 ≤ aI r (i : Int)
    · obtain ⟨_, _, h1, h2⟩ := plB_in hv (hD i (by omega) h).1
      rw [if_pos h] at ih
      have e := owners_l3 (k := k) i (by omega) (f := ownSt v.Seats.length L r i) (s := (aI r (i : Int)).toNat) (p := aI L (i : Int)) (m := (aI L (i : Int)).Size.toNat) (by omega) (by rw [ownSt_len]; omega) (by rw [ownSt_len]; omega) (aI L (i : Int)).Size.toNat k 0 (by omega) (by omega)
      rw [show (((aI r (i : Int)).toNat : Nat) : Int) = aI r (i : Int) by omega] at e
      have e : plan_Owners_l3 k (i : Int) (aI r (i : Int)) (aI L (i : Int)) k (ownSt v.Seats.length L r i) 0 = _ := e
      rw [bindS e]
      exact ih
    · rw [if_neg h] at ih
      have e := owners_l3_no (k := k) i (by omega) (f := ownSt v.Seats.length L r i) h (p := aI L (i : Int)) (m := (aI L (i : Int)).Size.toNat) (by omega) (by omega) (aI L (i : Int)).Size.toNat k 0 (by omega) (by omega)
      have e : plan_Owners_l3 k (i : Int) (aI r (i : Int)) (aI L (i : Int)) k (ownSt v.Seats.length L r i) 0 = _ := e
      rw [bindS e]
      exact ih
theorem plan_Owners_eq (hk : 1000 < k) (hp : Prob v L) (hb : k ≤ 4294967290) (ho : ∀ i : Nat, i < r.length → okI (aI r (i : Int))) : plan_Owners k v L r = some (if dB (PlanP v L [] r) = true then ownSt v.Seats.length L r L.length else []) := by
  have hv := hp.small (k := k) (by omega) hb
  have h4 := hp.l4
  have hn := hp.n1
  unfold plan_Owners
  rw [bindS (plan_May_eq hv hk (by omega) (by simp; omega) (fun i hi => absurd hi (by simp)) ho)]
  rcases Classical.em (PlanP v L [] r) with h | h
  · have e := owners_l2 hk hv (by omega) (by omega) h.len (h.disj hv) hp.all L.length k 0 (by omega) (by omega)
    rw [dB_T h, cNT, gdD (by omega), if_pos rfl]
    have e : plan_Owners_l2 k L r k (List.replicate v.Seats.length 0) 0 = _ := e
    rw [Int.toNat_natCast, bindS e]
  · rw [dB_F h, cNF, if_neg (by simp)]
end
end Go.Px

set_option linter.unusedVariables false
set_option linter.unusedSimpArgs false
namespace Go.Px
open Go Go.Sh
section
variable {k : Nat} {v : Venue} {L : List Party} {r : List Int}
theorem pseats_l0 (hp : Prob v L) (m : List Int) : ∀ (d n i : Nat) (w : List Int), i + d = L.length → d < n → w.length = i → (∀ j : Nat, j < w.length → -1 ≤ aI w (j : Int) ∧ aI w (j : Int) < v.Seats.length) →
    ∃ o, law12_PlanSeats_l0 k m (v, L) n w (i : Int) = some o ∧ o.length = L.length ∧ ∀ j : Nat, j < o.length → -1 ≤ aI o (j : Int) ∧ aI o (j : Int) < v.Seats.length
  | d, 0, i, w, _, h, _, _ => absurd h (by omega)
  | 0, n + 1, i, w, hi, _, hw, hx => by
    rw [law12_PlanSeats_l0, condN (by simp only; omega)]
    exact ⟨w, rfl, by omega, hx⟩
  | d + 1, n + 1, i, w, hi, hd, hw, hx => by
    have h4 := hp.l4
    have hn := hp.n1
    have hn0 := hp.may.n0
    have hgo : ∀ x : Int, -1 ≤ x ∧ x < v.Seats.length → ∃ o, law12_PlanSeats_l0 k m (v, L) n (w ++ [x]) ((i + 1 : Nat) : Int) = some o ∧ o.length = L.length ∧ ∀ j : Nat, j < o.length → -1 ≤ aI o (j : Int) ∧ aI o (j : Int) < v.Seats.length := fun x h => by
      refine pseats_l0 hp m d n (i + 1) (w ++ [x]) (by omega) (by omega) (by simp [hw]) fun j hj => ?_
      rw [List.length_append, List.length_singleton] at hj
      by_cases hjw : j < w.length
      · rw [aI_lt hjw]; exact hx j hjw
      · rw [aI_last (by omega)]; exact h
    rw [law12_PlanSeats_l0, wr_succ (i := i) (by omega)]
    simp only
    rw [condD (by omega)]
    by_cases h : (i : Int) < (m.length : Int)
    · have hw2 : IntKind.u64.wrap (wr ((v.Seats.length : Int) + 1)) = (v.Seats.length : Int) + 1 := by rw [wr_id (by omega) (by omega), wu_id (by omega) (by omega)]
      obtain ⟨u0, u1⟩ := um (aI m (i : Int)) ((v.Seats.length : Int) + 1) (by omega)
      rw [condD h, bindS (idx_aI (by omega) h), hw2, gdD (by omega), wr_id (x := (IntKind.u64.wrap (aI m (i : Int))).tmod ((v.Seats.length : Int) + 1)) (by omega) (by omega), wr_id (x := (IntKind.u64.wrap (aI m (i : Int))).tmod ((v.Seats.length : Int) + 1) - 1) (by omega) (by omega), gdD (by simp only [List.length_singleton]; omega)]
      exact hgo _ (by omega)
    · rw [condN h, gdD (by simp only [List.length_singleton]; omega)]
      exact hgo _ (by omega)
theorem pseats_l4 (i : Nat) (hi : i ≤ 1000) {f : List Int} {s m : Nat} (hf : s + m ≤ f.length) (hb : f.length ≤ 1000) : ∀ (d n j : Nat) (c : Bool), j + d = m → d < n →
    law12_PlanSeats_l4 k (rangeL (s : Int) m, true) (i : Int) n (setR f s ((i : Int) + 1) j) c (j : Int) = some (.go (setR f s ((i : Int) + 1) m, c && dB (∀ q : Nat, s + j ≤ q → q < s + m → aI f (q : Int) = 0)))
  | d, 0, j, c, _, h => absurd h (by omega)
  | 0, n + 1, j, c, hj, _ => by
    rw [law12_PlanSeats_l4, condN (by simp only; rw [rangeL_len]; omega), show j = m by omega, dB_T (fun q a b => absurd b (by omega)), Bool.and_true]
  | d + 1, n + 1, j, c, hj, hd => by
    have hx : idx (rangeL (s : Int) m) (j : Int) = some ((s + j : Nat) : Int) := by
      rw [idx_get (by omega) (by rw [Int.toNat_natCast]; exact rangeL_get (by omega))]
      congr 1
    have hl : (setR f s ((i : Int) + 1) j).length = f.length := setR_len
    have hg : aI (setR f s ((i : Int) + 1) j) ((s + j : Nat) : Int) = aI f ((s + j : Nat) : Int) := by rw [setR_at (by omega), if_neg (by omega)]
    have ih := fun c => pseats_l4 i hi hf hb d n (j + 1) c (by omega) (by omega)
    rw [setR] at ih
    rw [law12_PlanSeats_l4]
    simp only
    rw [condD (by rw [rangeL_len]; omega), bindS hx, condN (by omega), bindS hx, condN (by omega), bindS hx, bindS hx, bindS (idx_aI (l := setR f s ((i : Int) + 1) j) (by omega) (by omega)), bindS (idx_aI (l := setR f s ((i : Int) + 1) j) (by omega) (by omega)), hg, wr_succ (i := j) (by omega), wr_id (x := (i : Int) + 1) (by omega) (by omega), Int.toNat_natCast]
    cases c
    · rw [cond_false, ih, Bool.false_and, Bool.false_and]
    · rw [cond_true, bindS hx, bindS (idx_aI (l := setR f s ((i : Int) + 1) j) (by omega) (by omega)), Int.toNat_natCast, ih, Bool.true_and]
      congr 3
      by_cases h1 : aI f ((s + j : Nat) : Int) = 0
      · rw [decide_eq_true h1, Bool.true_and, Bool.eq_iff_iff, dB_iff, dB_iff]
        constructor
        · intro h q a b
          rcases Nat.lt_or_ge (s + j) q with x | x
          · exact h q (by omega) b
          · rw [show q = s + j by omega]; exact h1
        · intro h q a b; exact h q (by omega) b
      · rw [decide_eq_false h1, Bool.false_and, dB_F (fun h => h1 (h (s + j) (by omega) (by omega)))]
theorem pseats_l3 (hp : Prob v L) (hk : 1000 < k) (hb : k ≤ 4294967290) (hr : r.length = L.length) (hx : ∀ j : Nat, j < r.length → -1 ≤ aI r (j : Int) ∧ aI r (j : Int) < v.Seats.length) : ∀ (d n i : Nat) (g : List Int), i + d = L.length → d < n → g.length = v.Seats.length → (DisjP v L r i → g = ownSt v.Seats.length L r i) →
    ∃ g', law12_PlanSeats_l3 k r (v, L) n g (dB (DisjP v L r i)) (i : Int) = some (.go (g', dB (DisjP v L r L.length))) ∧ g'.length = v.Seats.length ∧ (DisjP v L r L.length → g' = ownSt v.Seats.length L r L.length)
  | d, 0, i, g, _, h, _, _ => absurd h (by omega)
  | 0, n + 1, i, g, hi, _, hl, hg => by
    obtain rfl : i = L.length := by omega
    rw [law12_PlanSeats_l3, condN (by omega)]
    exact ⟨g, rfl, hl, hg⟩
  | d + 1, n + 1, i, g, hi, hd, hl, hg => by
    have h4 := hp.l4
    have hn := hp.n1
    have hv := hp.small (k := k) (by omega) hb
    obtain ⟨x0, x1⟩ := hx i (by omega)
    rw [law12_PlanSeats_l3, condD (by omega), bindS (idx_aI (by omega) (by omega)), wr_succ (by omega)]
    simp only
    by_cases h : aI r (i : Int) < 0
    · have hD : DisjP v L r (i + 1) ↔ DisjP v L r i := ⟨fun x => x.mono (by omega), fun x j hj h0 => by
        rcases Nat.lt_or_ge j i with q | q
        · exact x j q h0
        · rw [show j = i by omega] at h0; exact absurd h0 (by omega)⟩
      have e : dB (DisjP v L r i) = dB (DisjP v L r (i + 1)) := by rw [Bool.eq_iff_iff, dB_iff, dB_iff]; exact hD.symm
      rw [condD h, e]
      refine pseats_l3 hp hk hb hr hx d n (i + 1) g (by omega) (by omega) hl fun x => ?_
      rw [ownSt, if_neg (by omega)]
      exact hg (hD.1 x)
    · have ho : okI (aI r (i : Int)) := ⟨by omega, by omega⟩
      rw [condN h, bindS (idx_aI (l := L) (by omega) (by omega)), bindS (idx_aI (l := r) (by omega) (by omega)), bindS (place_Seats_eq hv hk (aI L (i : Int)) ho)]
      cases hpl : plB v (aI L (i : Int)) (aI r (i : Int))
      · have hno : ¬ DisjP v L r (i + 1) := fun x => by
          have := (x i (by omega) (by omega)).1
          rw [hpl] at this
          cases this
        have e4 : ∀ b : Bool, law12_PlanSeats_l4 k ([], false) (i : Int) k g b 0 = some (.go (g, b)) := fun b => by
          obtain ⟨k', rfl⟩ : ∃ k', k = k' + 1 := ⟨k - 1, by omega⟩
          rw [law12_PlanSeats_l4, condN (by simp)]
        have ec : (cond (dB (DisjP v L r i)) (some false) (some false)) = some false := by cases dB (DisjP v L r i) <;> rfl
        rw [if_neg (by simp)]
        simp only
        rw [ec, bindS rfl, bindS (e4 false), elim_go]
        have ih := pseats_l3 hp hk hb hr hx d n (i + 1) g (by omega) (by omega) hl (fun x => absurd x hno)
        rw [dB_F hno] at ih
        exact ih
      · obtain ⟨_, hm, s0, s1⟩ := plB_in hv hpl
        obtain ⟨s, hs⟩ := Int.eq_ofNat_of_zero_le s0
        have hs : aI r (i : Int) = (s : Int) := hs
        have e4 := fun b => pseats_l4 (k := k) i (by omega) (f := g) (s := s) (m := (aI L (i : Int)).Size.toNat) (by omega) (by omega) (aI L (i : Int)).Size.toNat k 0 b (by omega) (by omega)
        have e4 : ∀ b, law12_PlanSeats_l4 k (rangeL (s : Int) (aI L (i : Int)).Size.toNat, true) (i : Int) k g b 0 = _ := e4
        have ec : (cond (dB (DisjP v L r i)) (some true) (some false)) = some (dB (DisjP v L r i)) := by cases dB (DisjP v L r i) <;> rfl
        rw [if_pos rfl, hs]
        simp only
        rw [ec, bindS rfl, bindS (e4 _), elim_go]
        have hD : (dB (DisjP v L r i) && dB (∀ q : Nat, s + 0 ≤ q → q < s + (aI L (i : Int)).Size.toNat → aI g (q : Int) = 0)) = dB (DisjP v L r (i + 1)) := by
          rw [Bool.eq_iff_iff, Bool.and_eq_true, dB_iff, dB_iff, dB_iff]
          constructor
          · rintro ⟨a, b⟩ j hj h0
            rcases Nat.lt_or_ge j i with q | q
            · exact a j q h0
            · obtain rfl : j = i := by omega
              refine ⟨hpl, fun j' hj' t ht ht' => ?_⟩
              obtain ⟨t0, t1, t2⟩ := ht
              obtain ⟨tt, rfl⟩ := Int.eq_ofNat_of_zero_le (by omega : 0 ≤ t)
              have := b tt (by omega) (by omega)
              rw [hg a, (own_F hv a).some tt j' hj' ht'] at this
              omega
          · intro a
            have ai := a.mono (j := i) (by omega)
            refine ⟨ai, fun q q0 q1 => ?_⟩
            rw [hg ai]
            exact (own_F hv ai).none q (by omega) (fun j' hj' => (a i (by omega) (by omega)).2 j' hj' q ⟨by omega, by omega, by omega⟩)
        simp only
        rw [hD]
        refine pseats_l3 hp hk hb hr hx d n (i + 1) _ (by omega) (by omega) (by rw [setR_len, hl]) fun x => ?_
        have xi := x.mono (j := i) (by omega)
        rw [ownSt, if_pos (by omega), hg xi, hs, Int.toNat_natCast]
/-- No two seats of unlike owners clash. -/
def NoCl (v : Venue) (g : List Int) (s q : Nat) : Prop := 0 < aI g (s : Int) → 0 < aI g (q : Int) → ¬ aI g (s : Int) = aI g (q : Int) → closeB (seatA v s) (seatA v q) v.Radius = false
theorem pseats_l8 (hv : Small k v) (hM : MayV v) {g : List Int} {b0 : Bool} {s : Nat} (hs : s < v.Seats.length) (hg : g.length = v.Seats.length) (hn : v.Seats.length ≤ 1000) : ∀ (d n q : Nat) (c : Bool), q + d = s → d < n →
    law12_PlanSeats_l8 k (v, L) (g, b0) (s : Int) n c (q : Int) = some (c && dB (∀ p : Nat, q ≤ p → p < s → NoCl v g s p))
  | d, 0, q, c, _, h => absurd h (by omega)
  | 0, n + 1, q, c, hq, _ => by
    rw [law12_PlanSeats_l8, condN (by omega), dB_T (fun p a b => absurd b (by omega)), Bool.and_true]
  | d + 1, n + 1, q, c, hq, hd => by
    have ih := fun c => pseats_l8 hv hM (b0 := b0) hs hg hn d n (q + 1) c (by omega) (by omega)
    have hcl : ∃ b, (Option.bind (idx g (s : Int)) fun y617 => cond (decide (0 < y617)) (Option.bind (idx g (q : Int)) fun y620 => cond (decide (0 < y620)) (Option.bind (idx g (s : Int)) fun y623 => Option.bind (idx g (q : Int)) fun y625 => cond (!decide (y623 = y625)) (Option.bind (ref6_Clash k v (s : Int) (q : Int)) fun r628 => some r628) (some false)) (some false)) (some false)) = some b ∧ (b = false ↔ NoCl v g s q) := by
      rw [bindS (idx_aI (by omega) (by omega)), bindS (idx_aI (by omega) (by omega)), bindS (idx_aI (by omega) (by omega)), bindS (idx_aI (by omega) (by omega))]
      unfold NoCl
      by_cases h1 : 0 < aI g (s : Int)
      · rw [condD h1]
        by_cases h2 : 0 < aI g (q : Int)
        · rw [condD h2]
          by_cases h3 : aI g (s : Int) = aI g (q : Int)
          · rw [condNT h3]; exact ⟨_, rfl, fun _ _ _ h => absurd h3 h, fun _ => rfl⟩
          · rw [condNF h3, bindS (ref6_Clash_eq hv hM (by omega) (by omega) (by omega))]
            exact ⟨_, rfl, fun h _ _ _ => h, fun h => h h1 h2 h3⟩
        · rw [condN h2]; exact ⟨_, rfl, fun _ _ h => absurd h h2, fun _ => rfl⟩
      · rw [condN h1]; exact ⟨_, rfl, fun _ h => absurd h h1, fun _ => rfl⟩
    obtain ⟨b, eb, hb⟩ := hcl
    rw [law12_PlanSeats_l8]
    simp only
    rw [condD (by omega), bindS eb, wr_succ (by omega)]
    cases b
    · have hc := hb.1 rfl
      rw [cond_false, ih]
      congr 2
      rw [Bool.eq_iff_iff, dB_iff, dB_iff]
      constructor
      · intro h p a c
        rcases Nat.lt_or_ge q p with x | x
        · exact h p x c
        · rw [show p = q by omega]; exact hc
      · intro h p a c; exact h p (by omega) c
    · have hc : ¬ NoCl v g s q := fun x => by have := hb.2 x; cases this
      rw [cond_true, ih, dB_F (p := ∀ p : Nat, q ≤ p → p < s → NoCl v g s p) (fun h => hc (h q (by omega) (by omega))), Bool.false_and, Bool.and_false]
theorem pseats_l7 (hv : Small k v) (hM : MayV v) {g : List Int} {b0 : Bool} (hg : g.length = v.Seats.length) (hn : v.Seats.length ≤ 1000) (hk : 1000 < k) : ∀ (d n s : Nat) (c : Bool), s + d = g.length → d < n →
    law12_PlanSeats_l7 k (v, L) (g, b0) n c (s : Int) = some (c && dB (∀ t p : Nat, s ≤ t → t < g.length → p < t → NoCl v g t p))
  | d, 0, s, c, _, h => absurd h (by omega)
  | 0, n + 1, s, c, hq, _ => by
    rw [law12_PlanSeats_l7, condN (by simp only; omega), dB_T (fun t p a b => absurd b (by omega)), Bool.and_true]
  | d + 1, n + 1, s, c, hq, hd => by
    have e := pseats_l8 hv hM (L := L) (b0 := b0) (s := s) (by omega) hg hn s k 0 c (by omega) (by omega)
    have e : law12_PlanSeats_l8 k (v, L) (g, b0) (s : Int) k c 0 = _ := e
    rw [law12_PlanSeats_l7]
    simp only
    rw [condD (by omega), bindS e, wr_succ (by omega), pseats_l7 hv hM hg hn hk d n (s + 1) _ (by omega) (by omega), Bool.and_assoc]
    congr 2
    rw [Bool.eq_iff_iff, Bool.and_eq_true, dB_iff, dB_iff, dB_iff]
    constructor
    · rintro ⟨a, b⟩ t p h1 h2 h3
      rcases Nat.lt_or_ge s t with x | x
      · exact b t p x h2 h3
      · obtain rfl : t = s := by omega
        exact a p (by omega) h3
    · intro h
      exact ⟨fun p _ h2 => h s p (by omega) (by omega) h2, fun t p h1 h2 h3 => h t p (by omega) h2 h3⟩
theorem PlanP_iff_seats (hp : Prob v L) {k : Nat} (hv : Small k v) (hr : r.length = L.length) (hx : ∀ j : Nat, j < r.length → -1 ≤ aI r (j : Int) ∧ aI r (j : Int) < v.Seats.length) (hD : DisjP v L r L.length) :
    PlanP v L [] r ↔ ∀ t p : Nat, 0 ≤ t → t < (ownSt v.Seats.length L r L.length).length → p < t → NoCl v (ownSt v.Seats.length L r L.length) t p := by
  have hF := own_F hv hD
  have hl : (ownSt v.Seats.length L r L.length).length = v.Seats.length := ownSt_len
  generalize ownSt v.Seats.length L r L.length = f at hF hl
  constructor
  · intro h t p _ ht hpt h1 h2 h3
    have own : ∀ s : Nat, s < v.Seats.length → 0 < aI f (s : Int) → ∃ j, j < L.length ∧ rg L r j (s : Int) ∧ aI f (s : Int) = (j : Int) + 1 := fun s hs h0 => by
      rcases Classical.em (∃ j, j < L.length ∧ rg L r j (s : Int)) with ⟨j, hj, hg⟩ | hno
      · exact ⟨j, hj, hg, hF.some s j hj hg⟩
      · have := hF.none s hs (fun j hj hg => hno ⟨j, hj, hg⟩)
        omega
    obtain ⟨a, a1, a2, a3⟩ := own t (by omega) h1
    obtain ⟨b, b1, b2, b3⟩ := own p (by omega) h2
    have gen : ∀ a b : Nat, a < L.length → b < a → ∀ s q : Int, rg L r a s → rg L r b q → closeB (seatA v s) (seatA v q) v.Radius = false := fun a b ha hb s q hs hq => by
      obtain ⟨s0, s1, s2⟩ := hs
      obtain ⟨q0, q1, q2⟩ := hq
      have := (h.at_ a (by omega)).ap (by omega) b hb (by omega)
      unfold aptB at this
      rw [Bool.and_eq_true, Bool.and_eq_true] at this
      have := (apB_iff.1 this.2.2 (s - aI r (a : Int)).toNat (by omega) (q - aI r (b : Int)).toNat (by omega)).2
      rw [show aI r (a : Int) + (((s - aI r (a : Int)).toNat : Nat) : Int) = s by omega, show aI r (b : Int) + (((q - aI r (b : Int)).toNat : Nat) : Int) = q by omega] at this
      exact this
    rcases Nat.lt_or_ge b a with x | x
    · exact gen a b a1 x _ _ a2 b2
    · rw [closeB_symm]
      exact gen b a b1 (by omega) _ _ b2 a2
  · intro h
    refine ⟨hp.inn PinOK_nil, hr, fun i hi => ⟨fun f hf => (by cases hf), fun hn => (hD i (by omega) (by have := hx i hi; omega)).1, fun hn j hj hnj => ?_⟩⟩
    have i0 : 0 ≤ aI r (i : Int) := by have := hx i hi; omega
    have j0 : 0 ≤ aI r (j : Int) := by have := hx j (by omega); omega
    have hpi := hD i (by omega) i0
    have hpj := hD j (by omega) j0
    obtain ⟨_, a1, a2, a3⟩ := plB_in hv hpi.1
    obtain ⟨_, b1, b2, b3⟩ := plB_in hv hpj.1
    unfold aptB
    rw [hpi.1, hpj.1, Bool.true_and, Bool.true_and]
    refine apB_iff.2 fun x hx' y hy' => ?_
    have g1 : rg L r i (aI r (i : Int) + (x : Int)) := ⟨i0, by omega, by omega⟩
    have g2 : rg L r j (aI r (j : Int) + (y : Int)) := ⟨j0, by omega, by omega⟩
    have hne : ¬ aI r (i : Int) + (x : Int) = aI r (j : Int) + (y : Int) := fun e => hpi.2 j hj _ g1 (by rw [e]; exact g2)
    refine ⟨hne, ?_⟩
    obtain ⟨s, hs⟩ := Int.eq_ofNat_of_zero_le (by omega : 0 ≤ aI r (i : Int) + (x : Int))
    obtain ⟨q, hq⟩ := Int.eq_ofNat_of_zero_le (by omega : 0 ≤ aI r (j : Int) + (y : Int))
    rw [hs] at g1 hne ⊢
    rw [hq] at g2 hne ⊢
    have f1 := hF.some s i (by omega) g1
    have f2 := hF.some q j (by omega) g2
    rcases Nat.lt_or_ge q s with z | z
    · exact h s q (by omega) (by omega) z (by omega) (by omega) (by omega)
    · have hz : s < q := by
        rcases Nat.lt_or_ge s q with w | w
        · exact w
        · exact absurd (by rw [show s = q by omega]) hne
      rw [closeB_symm]
      exact h q s (by omega) (by omega) hz (by omega) (by omega) (by omega)
theorem PlanSeats_true (a0 : List Int) (h0 : okLI a0) (a1 : List Int) (h1 : okLI a1) (a2 : List Int) (h2 : okLI a2) : ∃ k, law12_PlanSeats k a0 a1 a2 = some true := by
  refine ⟨20000, ?_⟩
  obtain ⟨v, L, e, hp⟩ := law12_Small_eq (k := 20000) a0 a1 (by omega)
  have hv := hp.small (k := 20000) (by omega) (by omega)
  have h4 := hp.l4
  have hn := hp.n1
  obtain ⟨r, er, hr, hx⟩ := pseats_l0 (k := 20000) hp a2 L.length 20000 0 [] (by omega) (by omega) rfl (fun j hj => absurd hj (by simp))
  have er : law12_PlanSeats_l0 20000 a2 (v, L) 20000 [] 0 = some r := er
  have hok : ∀ i : Nat, i < r.length → okI (aI r (i : Int)) := fun i hi => by have := hx i hi; exact ⟨by omega, by omega⟩
  obtain ⟨g, eg, hgl, hg⟩ := pseats_l3 (k := 20000) hp (by omega) (by omega) hr hx L.length 20000 0 (ownSt v.Seats.length L r 0) (by omega) (by omega) ownSt_len (fun _ => rfl)
  rw [dB_T (p := DisjP v L r 0) (fun j hj => absurd hj (by omega))] at eg
  have eg : law12_PlanSeats_l3 20000 r (v, L) 20000 (List.replicate v.Seats.length 0) true 0 = _ := eg
  have e7 := pseats_l7 hv hp.may (L := L) (g := g) (b0 := dB (DisjP v L r L.length)) hgl (by omega) (by omega) g.length 20000 0 (dB (DisjP v L r L.length)) (by omega) (by omega)
  have e7 : law12_PlanSeats_l7 20000 (v, L) (g, dB (DisjP v L r L.length)) 20000 (dB (DisjP v L r L.length)) 0 = _ := e7
  have hfin : (dB (DisjP v L r L.length) && dB (∀ t p : Nat, 0 ≤ t → t < g.length → p < t → NoCl v g t p)) = dB (PlanP v L [] r) := by
    rw [Bool.eq_iff_iff, Bool.and_eq_true, dB_iff, dB_iff, dB_iff]
    constructor
    · rintro ⟨a, b⟩
      rw [hg a] at b
      exact (PlanP_iff_seats hp hv hr hx a).2 b
    · intro a
      have hD := a.disj hv
      refine ⟨hD, ?_⟩
      rw [hg hD]
      exact (PlanP_iff_seats hp hv hr hx hD).1 a
  unfold law12_PlanSeats
  rw [bindS e]
  simp only
  rw [bindS er, gdD (by omega), Int.toNat_natCast, bindS eg, elim_go]
  simp only
  rw [bindS e7, hfin, bindS (plan_Owners_eq (by omega) hp (by omega) hok), bindS law12_told_eq, cond_true, bindS (plan_May_eq hv (by omega) (by omega) (by simp) (fun i hi => absurd hi (by simp)) hok)]
  rcases Classical.em (PlanP v L [] r) with h | h
  · rw [dB_T h, if_pos rfl, ← hg (h.disj hv)]
    simp only [BEq.rfl, cond_true]
    rw [bindS (sameInts_refl _ _ (by omega) (by omega))]
    rfl
  · rw [dB_F h, if_neg (by simp)]
    rfl
end
end Go.Px
