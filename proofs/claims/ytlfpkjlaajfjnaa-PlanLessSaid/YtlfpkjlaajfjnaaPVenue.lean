/- What venue.May and its reference compute. -/
import Derived.Test.YtlfpkjlaajfjnaaX
import Derived.Test.YtlfpkjlaajfjnaaPScan
set_option linter.unusedVariables false
set_option linter.unusedSimpArgs false
namespace Go.Px
open Go Go.Sh
abbrev InP (x a b : Int) : Prop := a ≤ x ∧ x ≤ b
abbrev CoordP (x : Int) : Prop := InP x (-1048576) 1048576
abbrev SeatP (s : Seat) : Prop := InP s.Row 0 999 ∧ CoordP s.X ∧ CoordP s.Y ∧ InP s.Kind 0 2
abbrev LessP (a b : Seat) : Prop := a.Row < b.Row ∨ (a.Row = b.Row ∧ a.X < b.X)
abbrev SeatsP (l : List Seat) : Prop := ∀ j, j < l.length → ∀ s, l[j]? = some s → SeatP s ∧ (0 < j → ∀ r, l[j - 1]? = some r → LessP r s)
abbrev KillsP (l : List Int) (m : Int) : Prop := ∀ j, j < l.length → ∀ s, l[j]? = some s → 0 ≤ s ∧ s < m ∧ (0 < j → ∀ r, l[j - 1]? = some r → r < s)
abbrev PolesP (l : List Pole) : Prop := ∀ j, j < l.length → ∀ s, l[j]? = some s → CoordP s.X ∧ CoordP s.Y ∧ InP s.R 1 1048576
structure MayV (v : Venue) : Prop where
  seats : SeatsP v.Seats
  n0 : 1 ≤ v.Seats.length
  n1 : v.Seats.length ≤ 4096
  gap : InP v.Gap 1 1048576
  radius : InP v.Radius 0 1048576
  kills : KillsP v.Kills v.Seats.length
  k1 : v.Kills.length ≤ 200
  poles : PolesP v.Poles
  p1 : v.Poles.length ≤ 200
open Classical in
noncomputable def mayB (v : Venue) : Bool := decide (MayV v)
open Classical in
theorem mayB_iff {v : Venue} : mayB v = true ↔ MayV v := by unfold mayB; exact decide_eq_true_iff
theorem venue_in_eq (k : Nat) (x a b : Int) : venue_in k x a b = some (decide (InP x a b)) := by
  unfold venue_in
  exact condAnd rfl
theorem ref2_in_eq (k : Nat) (x a b : Int) : ref2_in k x a b = some (decide (InP x a b)) := by
  unfold ref2_in
  exact condAnd rfl
theorem venue_Coord_eq (k : Nat) (x : Int) : venue_Coord k x = some (decide (CoordP x)) := by
  unfold venue_Coord
  rw [bindS (venue_in_eq _ _ _ _)]
theorem ref2_coord_eq (k : Nat) (x : Int) : ref2_coord k x = some (decide (CoordP x)) := by
  unfold ref2_coord
  rw [bindS (ref2_in_eq _ _ _ _)]
theorem ref6_coord_eq (k : Nat) (x : Int) : ref6_coord k x = some (decide (CoordP x)) := by
  unfold ref6_coord
  exact condAnd rfl
theorem venue_Row_eq (k : Nat) (x : Int) : venue_Row k x = some (decide (InP x 0 999)) := by
  unfold venue_Row
  rw [bindS (venue_in_eq _ _ _ _)]
theorem venue_Reach_eq (k : Nat) (x : Int) : venue_Reach k x = some (decide (InP x 1 1048576)) := by
  unfold venue_Reach
  rw [bindS (venue_in_eq _ _ _ _)]
theorem venue_seat_eq (k : Nat) (s : Seat) : venue_seat k s = some (decide (SeatP s)) := by
  unfold venue_seat
  have h : (Option.bind (venue_Row k s.Row) fun r2 => cond r2 (Option.bind (venue_Coord k s.X) fun r5 => cond r5 (Option.bind (venue_Coord k s.Y) fun r8 => some r8) (some false)) (some false)) = some (decide (InP s.Row 0 999 ∧ CoordP s.X ∧ CoordP s.Y)) := by
    rw [bindS (venue_Row_eq _ _)]
    refine condAnd ?_
    rw [bindS (venue_Coord_eq _ _)]
    refine condAnd ?_
    rw [bindS (venue_Coord_eq _ _)]
  rw [h]
  by_cases h0 : s.Kind = 0
  · rw [condD h0]
    congr 1
    rw [decide_eq_decide]
    omega
  rw [condN h0]
  by_cases h1 : s.Kind = 1
  · rw [condD h1]
    congr 1
    rw [decide_eq_decide]
    omega
  rw [condN h1]
  by_cases h2 : s.Kind = 2
  · rw [condD h2]
    congr 1
    rw [decide_eq_decide]
    omega
  rw [condN h2]
  congr 1
  symm
  rw [decide_eq_false_iff_not]
  omega
theorem venue_Less_eq (k : Nat) (a b : Seat) : venue_Less k a b = some (decide (LessP a b)) := by
  unfold venue_Less
  by_cases h : a.Row < b.Row
  · rw [condD h, decide_eq_true (.inl h)]
  · rw [condN h, condAnd rfl]
    congr 1
    rw [decide_eq_decide]
    omega
theorem ref2_Less_eq (k : Nat) (a b : Seat) : ref2_Less k a b = some (decide (LessP a b)) := by
  unfold ref2_Less
  by_cases h : a.Row < b.Row
  · rw [condD h, decide_eq_true (.inl h)]
  · rw [condN h, condAnd rfl]
    congr 1
    rw [decide_eq_decide]
    omega
theorem some_get {α : Type} {l : List α} {i : Nat} (h : i < l.length) : ∃ s, l[i]? = some s ∧ idx l (i : Int) = some s := ⟨l[i], List.getElem?_eq_getElem h, idx_nat h⟩
theorem venue_seats_eq (k : Nat) (l : List Seat) (hl : l.length < k) (hb : l.length ≤ 4294967295) : ∃ b, venue_seats k l = some b ∧ (b = true ↔ SeatsP l ∧ 1 ≤ l.length ∧ l.length ≤ 4096) := by
  unfold venue_seats
  have hs : ∀ n i : Nat, i < l.length → (∀ s, l[i]? = some s → SeatP s ∧ (0 < i → ∀ r, l[i - 1]? = some r → LessP r s)) → venue_seats_l0 k l (n + 1) (i : Int) = venue_seats_l0 k l n ((i + 1 : Nat) : Int) := by
    intro n i hi hg
    obtain ⟨s, e1, e2⟩ := some_get hi
    obtain ⟨g1, g2⟩ := hg s e1
    rw [venue_seats_l0, condD (by omega), bindS e2, bindS (venue_seat_eq _ _), condNT g1, wr_succ (by omega)]
    by_cases h0 : 0 < i
    · obtain ⟨r, f1, f2⟩ := some_get (l := l) (i := i - 1) (by omega)
      rw [condD (by omega), wr_pred h0 (by omega), bindS f2, bindS (venue_Less_eq _ _ _), condNT (g2 h0 r f1)]
    · rw [condN (by omega)]
  have hf : ∀ n i : Nat, i < l.length → ¬ (∀ s, l[i]? = some s → SeatP s ∧ (0 < i → ∀ r, l[i - 1]? = some r → LessP r s)) → venue_seats_l0 k l (n + 1) (i : Int) = some (.rt false) := by
    intro n i hi hg
    obtain ⟨s, e1, e2⟩ := some_get hi
    rw [venue_seats_l0, condD (by omega), bindS e2, bindS (venue_seat_eq _ _)]
    by_cases g1 : SeatP s
    · rw [condNT g1]
      by_cases h0 : 0 < i
      · obtain ⟨r, f1, f2⟩ := some_get (l := l) (i := i - 1) (by omega)
        rw [condD (by omega), wr_pred h0 (by omega), bindS f2, bindS (venue_Less_eq _ _ _), condNF]
        intro hh
        refine hg fun s' e' => ?_
        rw [e1] at e'
        cases e'
        refine ⟨g1, fun _ r' f' => ?_⟩
        rw [f1] at f'
        cases f'
        exact hh
      · refine absurd (fun s' e' => ?_) hg
        rw [e1] at e'
        cases e'
        exact ⟨g1, fun h => absurd h h0⟩
    · rw [condNF g1]
  have he : ∀ n, venue_seats_l0 k l (n + 1) (l.length : Int) = some (.go ()) := fun n => by rw [venue_seats_l0, condN (by omega)]
  rcases scan _ hs hf he hl with ⟨g, e⟩ | ⟨g, e⟩
  · rw [bindS e, elim_go, condAnd rfl]
    refine ⟨_, rfl, ?_⟩
    rw [decide_eq_true_iff]
    constructor
    · rintro ⟨a, b⟩; exact ⟨g, by omega, by omega⟩
    · rintro ⟨_, a, b⟩; omega
  · rw [bindS e, elim_rt]
    exact ⟨_, rfl, by simp; exact fun h => absurd h g⟩
theorem ref2_seats_eq (k : Nat) (l : List Seat) (hl : l.length < k) (hb : l.length ≤ 4294967295) : ∃ b, ref2_seats k l = some b ∧ (b = true ↔ SeatsP l ∧ 1 ≤ l.length ∧ l.length ≤ 4096) := by
  unfold ref2_seats
  have hs : ∀ n i : Nat, i < l.length → (∀ s, l[i]? = some s → SeatP s ∧ (0 < i → ∀ r, l[i - 1]? = some r → LessP r s)) → ref2_seats_l0 k l (n + 1) (i : Int) = ref2_seats_l0 k l n ((i + 1 : Nat) : Int) := by
    intro n i hi hg
    obtain ⟨s, e1, e2⟩ := some_get hi
    obtain ⟨⟨g1, g3, g4, g5⟩, g2⟩ := hg s e1
    rw [ref2_seats_l0, condD (by omega), bindS e2, bindS (ref2_in_eq _ _ _ _), condNT g1, bindS (ref2_coord_eq _ _), condNT g3, bindS (ref2_coord_eq _ _), condNT g4, bindS (ref2_in_eq _ _ _ _), condNT g5, wr_succ (by omega)]
    by_cases h0 : 0 < i
    · obtain ⟨r, f1, f2⟩ := some_get (l := l) (i := i - 1) (by omega)
      rw [condD (by omega), wr_pred h0 (by omega), bindS f2, bindS (ref2_Less_eq _ _ _), condNT (g2 h0 r f1)]
    · rw [condN (by omega)]
  have hf : ∀ n i : Nat, i < l.length → ¬ (∀ s, l[i]? = some s → SeatP s ∧ (0 < i → ∀ r, l[i - 1]? = some r → LessP r s)) → ref2_seats_l0 k l (n + 1) (i : Int) = some (.rt false) := by
    intro n i hi hg
    obtain ⟨s, e1, e2⟩ := some_get hi
    rw [ref2_seats_l0, condD (by omega), bindS e2, bindS (ref2_in_eq _ _ _ _), bindS (ref2_coord_eq _ _), bindS (ref2_coord_eq _ _), bindS (ref2_in_eq _ _ _ _)]
    by_cases g1 : InP s.Row 0 999
    · rw [condNT g1]
      by_cases g3 : CoordP s.X
      · rw [condNT g3]
        by_cases g4 : CoordP s.Y
        · rw [condNT g4]
          by_cases g5 : InP s.Kind 0 2
          · rw [condNT g5]
            by_cases h0 : 0 < i
            · obtain ⟨r, f1, f2⟩ := some_get (l := l) (i := i - 1) (by omega)
              rw [condD (by omega), wr_pred h0 (by omega), bindS f2, bindS (ref2_Less_eq _ _ _), condNF]
              intro hh
              refine hg fun s' e' => ?_
              rw [e1] at e'
              cases e'
              refine ⟨⟨g1, g3, g4, g5⟩, fun _ r' f' => ?_⟩
              rw [f1] at f'
              cases f'
              exact hh
            · refine absurd (fun s' e' => ?_) hg
              rw [e1] at e'
              cases e'
              exact ⟨⟨g1, g3, g4, g5⟩, fun h => absurd h h0⟩
          · rw [condNF g5]
        · rw [condNF g4]
      · rw [condNF g3]
    · rw [condNF g1]
  have he : ∀ n, ref2_seats_l0 k l (n + 1) (l.length : Int) = some (.go ()) := fun n => by rw [ref2_seats_l0, condN (by omega)]
  rcases scan _ hs hf he hl with ⟨g, e⟩ | ⟨g, e⟩
  · rw [bindS e, elim_go, condAnd rfl]
    refine ⟨_, rfl, ?_⟩
    rw [decide_eq_true_iff]
    constructor
    · rintro ⟨a, b⟩; exact ⟨g, by omega, by omega⟩
    · rintro ⟨_, a, b⟩; omega
  · rw [bindS e, elim_rt]
    exact ⟨_, rfl, by simp; exact fun h => absurd h g⟩
theorem venue_kills_eq (k : Nat) (l : List Int) (m : Int) (hl : l.length < k) (hb : l.length ≤ 4294967295) : ∃ b, venue_kills k l m = some b ∧ (b = true ↔ KillsP l m ∧ l.length ≤ 200) := by
  unfold venue_kills
  have hs : ∀ n i : Nat, i < l.length → (∀ s, l[i]? = some s → 0 ≤ s ∧ s < m ∧ (0 < i → ∀ r, l[i - 1]? = some r → r < s)) → venue_kills_l0 k l m (n + 1) (i : Int) = venue_kills_l0 k l m n ((i + 1 : Nat) : Int) := by
    intro n i hi hg
    obtain ⟨s, e1, e2⟩ := some_get hi
    obtain ⟨g1, g2, g3⟩ := hg s e1
    rw [venue_kills_l0, condD (by omega), bindS e2, condN (by omega), condN (by omega), wr_succ (by omega)]
    by_cases h0 : 0 < i
    · obtain ⟨r, f1, f2⟩ := some_get (l := l) (i := i - 1) (by omega)
      have := g3 h0 r f1
      rw [condD (by omega), wr_pred h0 (by omega), bindS f2, condN (by omega)]
    · rw [condN (by omega)]
  have hf : ∀ n i : Nat, i < l.length → ¬ (∀ s, l[i]? = some s → 0 ≤ s ∧ s < m ∧ (0 < i → ∀ r, l[i - 1]? = some r → r < s)) → venue_kills_l0 k l m (n + 1) (i : Int) = some (.rt false) := by
    intro n i hi hg
    obtain ⟨s, e1, e2⟩ := some_get hi
    rw [venue_kills_l0, condD (by omega), bindS e2]
    by_cases g1 : s < 0
    · rw [condD g1]
    rw [condN g1]
    by_cases g2 : m ≤ s
    · rw [condD g2]
    rw [condN g2]
    by_cases h0 : 0 < i
    · obtain ⟨r, f1, f2⟩ := some_get (l := l) (i := i - 1) (by omega)
      rw [condD (by omega), wr_pred h0 (by omega), bindS f2, condD]
      apply Classical.byContradiction
      intro hh
      refine hg fun s' e' => ?_
      rw [e1] at e'
      cases e'
      refine ⟨by omega, by omega, fun _ r' f' => ?_⟩
      rw [f1] at f'
      cases f'
      omega
    · refine absurd (fun s' e' => ?_) hg
      rw [e1] at e'
      cases e'
      exact ⟨by omega, by omega, fun h => absurd h h0⟩
  have he : ∀ n, venue_kills_l0 k l m (n + 1) (l.length : Int) = some (.go ()) := fun n => by rw [venue_kills_l0, condN (by omega)]
  rcases scan _ hs hf he hl with ⟨g, e⟩ | ⟨g, e⟩
  · rw [bindS e, elim_go]
    refine ⟨_, rfl, ?_⟩
    rw [decide_eq_true_iff]
    constructor
    · intro a; exact ⟨g, by omega⟩
    · rintro ⟨_, a⟩; omega
  · rw [bindS e, elim_rt]
    exact ⟨_, rfl, by simp; exact fun h => absurd h g⟩
theorem ref2_kills_eq (k : Nat) (l : List Int) (m : Int) (hl : l.length < k) (hb : l.length ≤ 4294967295) (hm : 0 ≤ m ∧ m ≤ 4294967295) : ∃ b, ref2_kills k l m = some b ∧ (b = true ↔ KillsP l m ∧ l.length ≤ 200) := by
  unfold ref2_kills
  have hs : ∀ n i : Nat, i < l.length → (∀ s, l[i]? = some s → 0 ≤ s ∧ s < m ∧ (0 < i → ∀ r, l[i - 1]? = some r → r < s)) → ref2_kills_l0 k l m (n + 1) (i : Int) = ref2_kills_l0 k l m n ((i + 1 : Nat) : Int) := by
    intro n i hi hg
    obtain ⟨s, e1, e2⟩ := some_get hi
    obtain ⟨g1, g2, g3⟩ := hg s e1
    rw [ref2_kills_l0, condD (by omega), bindS e2, bindS (ref2_in_eq _ _ _ _), wr_id (x := m - 1) (by omega) (by omega), condNT ⟨by omega, by omega⟩, wr_succ (by omega)]
    by_cases h0 : 0 < i
    · obtain ⟨r, f1, f2⟩ := some_get (l := l) (i := i - 1) (by omega)
      have := g3 h0 r f1
      rw [condD (by omega), bindS e2, wr_pred h0 (by omega), bindS f2, condN (by omega)]
    · rw [condN (by omega)]
  have hf : ∀ n i : Nat, i < l.length → ¬ (∀ s, l[i]? = some s → 0 ≤ s ∧ s < m ∧ (0 < i → ∀ r, l[i - 1]? = some r → r < s)) → ref2_kills_l0 k l m (n + 1) (i : Int) = some (.rt false) := by
    intro n i hi hg
    obtain ⟨s, e1, e2⟩ := some_get hi
    rw [ref2_kills_l0, condD (by omega), bindS e2, bindS (ref2_in_eq _ _ _ _), wr_id (x := m - 1) (by omega) (by omega)]
    by_cases g1 : InP s 0 (m - 1)
    · rw [condNT g1]
      by_cases h0 : 0 < i
      · obtain ⟨r, f1, f2⟩ := some_get (l := l) (i := i - 1) (by omega)
        rw [condD (by omega), bindS e2, wr_pred h0 (by omega), bindS f2, condD]
        apply Classical.byContradiction
        intro hh
        refine hg fun s' e' => ?_
        rw [e1] at e'
        cases e'
        refine ⟨by omega, by omega, fun _ r' f' => ?_⟩
        rw [f1] at f'
        cases f'
        omega
      · refine absurd (fun s' e' => ?_) hg
        rw [e1] at e'
        cases e'
        exact ⟨by omega, by omega, fun h => absurd h h0⟩
    · rw [condNF g1]
  have he : ∀ n, ref2_kills_l0 k l m (n + 1) (l.length : Int) = some (.go ()) := fun n => by rw [ref2_kills_l0, condN (by omega)]
  rcases scan _ hs hf he hl with ⟨g, e⟩ | ⟨g, e⟩
  · rw [bindS e, elim_go]
    refine ⟨_, rfl, ?_⟩
    rw [decide_eq_true_iff]
    constructor
    · intro a; exact ⟨g, by omega⟩
    · rintro ⟨_, a⟩; omega
  · rw [bindS e, elim_rt]
    exact ⟨_, rfl, by simp; exact fun h => absurd h g⟩
theorem venue_poles_eq (k : Nat) (l : List Pole) (hl : l.length < k) (hb : l.length ≤ 4294967295) : ∃ b, venue_poles k l = some b ∧ (b = true ↔ PolesP l ∧ l.length ≤ 200) := by
  unfold venue_poles
  have hs : ∀ n i : Nat, i < l.length → (∀ s, l[i]? = some s → CoordP s.X ∧ CoordP s.Y ∧ InP s.R 1 1048576) → venue_poles_l0 k l (n + 1) (i : Int) = venue_poles_l0 k l n ((i + 1 : Nat) : Int) := by
    intro n i hi hg
    obtain ⟨s, e1, e2⟩ := some_get hi
    obtain ⟨g1, g2, g3⟩ := hg s e1
    rw [venue_poles_l0, condD (by omega), bindS e2, bindS (venue_Coord_eq _ _), condNT g1, bindS (venue_Coord_eq _ _), condNT g2, bindS (venue_Reach_eq _ _), condNT g3, wr_succ (by omega)]
  have hf : ∀ n i : Nat, i < l.length → ¬ (∀ s, l[i]? = some s → CoordP s.X ∧ CoordP s.Y ∧ InP s.R 1 1048576) → venue_poles_l0 k l (n + 1) (i : Int) = some (.rt false) := by
    intro n i hi hg
    obtain ⟨s, e1, e2⟩ := some_get hi
    rw [venue_poles_l0, condD (by omega), bindS e2, bindS (venue_Coord_eq _ _), bindS (venue_Coord_eq _ _), bindS (venue_Reach_eq _ _)]
    by_cases g1 : CoordP s.X
    · by_cases g2 : CoordP s.Y
      · by_cases g3 : InP s.R 1 1048576
        · refine absurd (fun s' e' => ?_) hg
          rw [e1] at e'
          cases e'
          exact ⟨g1, g2, g3⟩
        · rw [condNT g1, condNT g2, condNF g3]
      · rw [condNT g1, condNF g2]
    · rw [condNF g1]
  have he : ∀ n, venue_poles_l0 k l (n + 1) (l.length : Int) = some (.go ()) := fun n => by rw [venue_poles_l0, condN (by omega)]
  rcases scan _ hs hf he hl with ⟨g, e⟩ | ⟨g, e⟩
  · rw [bindS e, elim_go]
    refine ⟨_, rfl, ?_⟩
    rw [decide_eq_true_iff]
    constructor
    · intro a; exact ⟨g, by omega⟩
    · rintro ⟨_, a⟩; omega
  · rw [bindS e, elim_rt]
    exact ⟨_, rfl, by simp; exact fun h => absurd h g⟩
theorem ref2_poles_eq (k : Nat) (l : List Pole) (hl : l.length < k) (hb : l.length ≤ 4294967295) : ∃ b, ref2_poles k l = some b ∧ (b = true ↔ PolesP l ∧ l.length ≤ 200) := by
  unfold ref2_poles
  have hs : ∀ n i : Nat, i < l.length → (∀ s, l[i]? = some s → CoordP s.X ∧ CoordP s.Y ∧ InP s.R 1 1048576) → ref2_poles_l0 k l (n + 1) (i : Int) = ref2_poles_l0 k l n ((i + 1 : Nat) : Int) := by
    intro n i hi hg
    obtain ⟨s, e1, e2⟩ := some_get hi
    obtain ⟨g1, g2, g3⟩ := hg s e1
    rw [ref2_poles_l0, condD (by omega), bindS e2, bindS (ref2_coord_eq _ _), condNT g1, bindS e2, bindS (ref2_coord_eq _ _), condNT g2, bindS e2, bindS (ref2_in_eq _ _ _ _), condNT g3, wr_succ (by omega)]
  have hf : ∀ n i : Nat, i < l.length → ¬ (∀ s, l[i]? = some s → CoordP s.X ∧ CoordP s.Y ∧ InP s.R 1 1048576) → ref2_poles_l0 k l (n + 1) (i : Int) = some (.rt false) := by
    intro n i hi hg
    obtain ⟨s, e1, e2⟩ := some_get hi
    rw [ref2_poles_l0, condD (by omega), bindS e2, bindS (ref2_coord_eq _ _), bindS e2, bindS (ref2_coord_eq _ _), bindS e2, bindS (ref2_in_eq _ _ _ _)]
    by_cases g1 : CoordP s.X
    · by_cases g2 : CoordP s.Y
      · by_cases g3 : InP s.R 1 1048576
        · refine absurd (fun s' e' => ?_) hg
          rw [e1] at e'
          cases e'
          exact ⟨g1, g2, g3⟩
        · rw [condNT g1, condNT g2, condNF g3]
      · rw [condNT g1, condNF g2]
    · rw [condNF g1]
  have he : ∀ n, ref2_poles_l0 k l (n + 1) (l.length : Int) = some (.go ()) := fun n => by rw [ref2_poles_l0, condN (by omega)]
  rcases scan _ hs hf he hl with ⟨g, e⟩ | ⟨g, e⟩
  · rw [bindS e, elim_go]
    refine ⟨_, rfl, ?_⟩
    rw [decide_eq_true_iff]
    constructor
    · intro a; exact ⟨g, by omega⟩
    · rintro ⟨_, a⟩; omega
  · rw [bindS e, elim_rt]
    exact ⟨_, rfl, by simp; exact fun h => absurd h g⟩
theorem notT {b : Bool} {p : Prop} (h : b = true ↔ p) : (p ∧ b = true) ∨ (¬ p ∧ b = false) := by
  cases b
  · exact .inr ⟨fun hp => absurd (h.2 hp) (by simp), rfl⟩
  · exact .inl ⟨h.1 rfl, rfl⟩
theorem may_no {v : Venue} (h : ¬ MayV v) : mayB v = false := by
  cases e : mayB v
  · rfl
  · exact absurd (mayB_iff.1 e) h
theorem venue_May_eq (k : Nat) (v : Venue) (h1 : v.Seats.length < k) (h2 : v.Kills.length < k) (h3 : v.Poles.length < k) (hk : k ≤ 4294967295) : venue_May k v = some (mayB v) := by
  unfold venue_May venue_Wrong
  obtain ⟨b1, e1, g1⟩ := venue_seats_eq k v.Seats h1 (by omega)
  obtain ⟨b2, e2, g2⟩ := venue_kills_eq k v.Kills (v.Seats.length : Int) h2 (by omega)
  obtain ⟨b3, e3, g3⟩ := venue_poles_eq k v.Poles h3 (by omega)
  rw [bindS e1, bindS (venue_Reach_eq _ _), bindS (venue_in_eq _ _ _ _), bindS e2, bindS e3]
  rcases notT g1 with ⟨p1, rfl⟩ | ⟨p1, rfl⟩
  · by_cases p4 : InP v.Gap 1 1048576
    · by_cases p5 : InP v.Radius 0 1048576
      · rcases notT g2 with ⟨p2, rfl⟩ | ⟨p2, rfl⟩
        · rcases notT g3 with ⟨p3, rfl⟩ | ⟨p3, rfl⟩
          · rw [mayB_iff.2 ⟨p1.1, p1.2.1, p1.2.2, p4, p5, p2.1, p2.2, p3.1, p3.2⟩, condNT p4, condNT p5]
            rfl
          · rw [may_no (fun h => p3 ⟨h.poles, h.p1⟩), condNT p4, condNT p5]
            rfl
        · rw [may_no (fun h => p2 ⟨h.kills, h.k1⟩), condNT p4, condNT p5]
          rfl
      · rw [may_no (fun h => p5 h.radius), condNT p4, condNF p5]
        rfl
    · rw [may_no (fun h => p4 h.gap), condNF p4]
      rfl
  · rw [may_no (fun h => p1 ⟨h.seats, h.n0, h.n1⟩)]
    rfl
theorem ref2_May_eq (k : Nat) (v : Venue) (h1 : v.Seats.length < k) (h2 : v.Kills.length < k) (h3 : v.Poles.length < k) (hk : k ≤ 4294967295) : ref2_May k v = some (mayB v) := by
  unfold ref2_May ref2_Wrong
  obtain ⟨b1, e1, g1⟩ := ref2_seats_eq k v.Seats h1 (by omega)
  obtain ⟨b2, e2, g2⟩ := ref2_kills_eq k v.Kills (v.Seats.length : Int) h2 (by omega) (by omega)
  obtain ⟨b3, e3, g3⟩ := ref2_poles_eq k v.Poles h3 (by omega)
  rw [bindS e1, bindS (ref2_in_eq _ _ _ _), bindS (ref2_in_eq _ _ _ _), bindS e2, bindS e3]
  rcases notT g1 with ⟨p1, rfl⟩ | ⟨p1, rfl⟩
  · by_cases p4 : InP v.Gap 1 1048576
    · by_cases p5 : InP v.Radius 0 1048576
      · rcases notT g2 with ⟨p2, rfl⟩ | ⟨p2, rfl⟩
        · rcases notT g3 with ⟨p3, rfl⟩ | ⟨p3, rfl⟩
          · rw [mayB_iff.2 ⟨p1.1, p1.2.1, p1.2.2, p4, p5, p2.1, p2.2, p3.1, p3.2⟩, condNT p4, condNT p5]
            rfl
          · rw [may_no (fun h => p3 ⟨h.poles, h.p1⟩), condNT p4, condNT p5]
            rfl
        · rw [may_no (fun h => p2 ⟨h.kills, h.k1⟩), condNT p4, condNT p5]
          rfl
      · rw [may_no (fun h => p5 h.radius), condNT p4, condNF p5]
        rfl
    · rw [may_no (fun h => p4 h.gap), condNF p4]
      rfl
  · rw [may_no (fun h => p1 ⟨h.seats, h.n0, h.n1⟩)]
    rfl
end Go.Px
