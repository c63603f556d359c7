/- The plain law, in parts: Base, Scan, Venue, Make, Kill, KillAsks, KillMore, Run, Runs, Place, PlaceTop, PlaceApart, PlaceKilled, Plan, Plans, Moved. -/
import Derived.Test.YtfgfckgbefnnaaaX
set_option linter.unusedVariables false
namespace Go.Px
open Go Go.Sh
theorem wr_id {x : Int} (h1 : -9223372036854775808 ≤ x) (h2 : x ≤ 9223372036854775807) : wr x = x := w64 h1 h2
section
variable {α β : Type}
theorem condD {p : Prop} {_ : Decidable p} {a b : α} (h : p) : cond (decide p) a b = a := by rw [decide_eq_true h]; rfl
theorem condN {p : Prop} {_ : Decidable p} {a b : α} (h : ¬ p) : cond (decide p) a b = b := by rw [decide_eq_false h]; rfl
theorem gdD {p : Prop} {_ : Decidable p} {r : Option α} (h : p) : gd (decide p) r = r := by rw [decide_eq_true h]; rfl
theorem elim_go {γ : Type} {a : α} {f : α → γ} {g : β → γ} : Ex.elim (.go a) f g = f a := (exg rfl).symm
theorem bindS {x : Option α} {a : α} {f : α → Option β} (h : x = some a) : Option.bind x f = f a := by rw [h]; rfl
theorem idx_get {l : List α} {i : Int} {y : α} (h0 : 0 ≤ i) (h : l[i.toNat]? = some y) : idx l i = some y := by unfold idx; rw [if_pos h0, h]
theorem idx_nat {l : List α} {n : Nat} (h : n < l.length) : idx l (n : Int) = some l[n] := idx_get (by omega) (by rw [Int.toNat_natCast]; exact List.getElem?_eq_getElem h)
end
theorem wr_succ {i : Nat} (h : i < 4294967296) : wr ((i : Int) + 1) = ((i + 1 : Nat) : Int) := by rw [wr_id (by omega) (by omega)]; omega
end Go.Px

set_option linter.unusedVariables false
namespace Go.Px
open Go Go.Sh
section
variable {ρ α : Type}
theorem scan_go {f : Nat → Int → Option (Ex Unit ρ)} {len : Nat} {good : Nat → Prop}
    (hs : ∀ n i : Nat, i < len → good i → f (n + 1) (i : Int) = f n ((i + 1 : Nat) : Int))
    (he : ∀ n, f (n + 1) (len : Int) = some (.go ())) : ∀ d n i : Nat, i + d = len → d < n → (∀ j, i ≤ j → j < len → good j) → f n (i : Int) = some (.go ())
  | d, 0, i, _, h, _ => absurd h (by omega)
  | 0, n + 1, i, hi, _, _ => by
    obtain rfl : i = len := by omega
    exact he n
  | d + 1, n + 1, i, hi, h, hg => by
    rw [hs n i (by omega) (hg i (by omega) (by omega))]
    exact scan_go hs he d n (i + 1) (by omega) (by omega) (fun j h1 h2 => hg j (by omega) h2)
/-- A loop that gathers `g i` for each `i` with `p i`. -/
theorem gather {f : Nat → List α → Int → Option (List α)} {len c : Nat} (p : Nat → Bool) (g : Nat → α)
    (hs : ∀ (n i : Nat) v, i < len → v.length ≤ c + i → f (n + 1) v (i : Int) = f n (if p i then v ++ [g i] else v) ((i + 1 : Nat) : Int))
    (he : ∀ n v, f (n + 1) v (len : Int) = some v) : ∀ (d n i : Nat) v, i + d = len → d < n → v.length ≤ c + i → f n v (i : Int) = some (v ++ ((List.range' i d).filter p).map g)
  | d, 0, i, v, _, h, _ => absurd h (by omega)
  | 0, n + 1, i, v, hi, _, _ => by
    obtain rfl : i = len := by omega
    rw [he]
    simp
  | d + 1, n + 1, i, v, hi, h, hv => by
    rw [hs n i v (by omega) hv]
    have := gather p g hs he d n (i + 1) (if p i then v ++ [g i] else v) (by omega) (by omega) (by split <;> (try rw [List.length_append, List.length_singleton]) <;> omega)
    rw [this, List.range'_succ, List.filter_cons]
    cases p i <;> simp
theorem gather0 {f : Nat → List α → Int → Option (List α)} {len c : Nat} (p : Nat → Bool) (g : Nat → α)
    (hs : ∀ (n i : Nat) v, i < len → v.length ≤ c + i → f (n + 1) v (i : Int) = f n (if p i then v ++ [g i] else v) ((i + 1 : Nat) : Int))
    (he : ∀ n v, f (n + 1) v (len : Int) = some v) {k : Nat} (hk : len < k) (v : List α) (hv : v.length ≤ c) : f k v 0 = some (v ++ ((List.range len).filter p).map g) := by
  rw [List.range_eq_range']
  exact gather p g hs he len k 0 v (by omega) hk (by omega)
end
theorem condNT {p : Prop} [Decidable p] {α : Type} {a b : α} (h : p) : cond (!decide p) a b = b := by rw [decide_eq_true h]; rfl
theorem condNF {p : Prop} [Decidable p] {α : Type} {a b : α} (h : ¬ p) : cond (!decide p) a b = a := by rw [decide_eq_false h]; rfl
end Go.Px

set_option linter.unusedVariables false
set_option linter.unusedSimpArgs false
namespace Go.Px
open Go Go.Sh
abbrev InP (x a b : Int) : Prop := a ≤ x ∧ x ≤ b
abbrev CoordP (x : Int) : Prop := InP x (-1048576) 1048576
abbrev SeatP (s : Seat) : Prop := InP s.Row 0 999 ∧ CoordP s.X ∧ CoordP s.Y ∧ InP s.Kind 0 2
abbrev LessP (a b : Seat) : Prop := a.Row < b.Row ∨ (a.Row = b.Row ∧ a.X < b.X)
abbrev SeatsP (l : List Seat) : Prop := ∀ j, j < l.length → ∀ s, l[j]? = some s → SeatP s ∧ (0 < j → ∀ r, l[j - 1]? = some r → LessP r s)
abbrev KillsP (l : List Int) (m : Int) : Prop := ∀ j, j < l.length → ∀ s, l[j]? = some s → 0 ≤ s ∧ s < m ∧ (0 < j → ∀ r, l[j - 1]? = some r → r < s)
abbrev PolesP (l : List Pole) : Prop := ∀ j, j < l.length → ∀ s, l[j]? = some s → CoordP s.X ∧ CoordP s.Y ∧ InP s.R 1 1048576
structure MayV (v : Venue) : Prop where
  seats : SeatsP v.Seats
  n0 : 1 ≤ v.Seats.length
  n1 : v.Seats.length ≤ 4096
  gap : InP v.Gap 1 1048576
  radius : InP v.Radius 0 1048576
  kills : KillsP v.Kills v.Seats.length
  k1 : v.Kills.length ≤ 200
  poles : PolesP v.Poles
  p1 : v.Poles.length ≤ 200
open Classical in
noncomputable def mayB (v : Venue) : Bool := decide (MayV v)
theorem some_get {α : Type} {l : List α} {i : Nat} (h : i < l.length) : ∃ s, l[i]? = some s ∧ idx l (i : Int) = some s := ⟨l[i], List.getElem?_eq_getElem h, idx_nat h⟩
end Go.Px

set_option linter.unusedVariables false
set_option linter.unusedSimpArgs false
namespace Go.Px
open Go Go.Sh
structure MkI (S : List Seat) (rad : Int) (K : List Int) (P : List Pole) (row x : Int) (i : Nat) : Prop where
  len : S.length = i + 1
  seats : SeatsP S
  last : ∀ r, S[S.length - 1]? = some r → r.Row = row ∧ r.X = x
  r0 : 0 ≤ row
  r1 : row ≤ i
  x0 : 0 ≤ x
  x1 : x ≤ 15 * (i : Int)
  rad0 : InP rad 0 24
  kills : KillsP K S.length
  kl : K.length ≤ S.length
  poles : PolesP P
  pl : P.length ≤ S.length
structure MkF (m : Nat) (o : List Seat × Int × List Int × List Pole) : Prop where
  seats : SeatsP o.1
  n0 : 1 ≤ o.1.length
  n1 : o.1.length ≤ m
  rad : InP o.2.1 0 24
  kills : KillsP o.2.2.1 o.1.length
  kl : o.2.2.1.length ≤ m
  poles : PolesP o.2.2.2
  pl : o.2.2.2.length ≤ m
/-- The venue that Make makes. -/
structure MadeV (m : Nat) (v : Venue) : Prop where
  may : MayV v
  n1 : v.Seats.length ≤ m
  gap : v.Gap = 10
  rad : InP v.Radius 0 24
  kl : v.Kills.length ≤ m
  pl : v.Poles.length ≤ m
end Go.Px

set_option linter.unusedVariables false
set_option linter.unusedSimpArgs false
namespace Go.Px
open Go Go.Sh
def far (a b : Seat) : Int := if CoordP a.X ∧ CoordP a.Y ∧ CoordP b.X ∧ CoordP b.Y then (a.X - b.X) * (a.X - b.X) + (a.Y - b.Y) * (a.Y - b.Y) else 0
def closeB (a b : Seat) (r : Int) : Bool := decide (far a b < wr (r * r))
def poleS (p : Pole) : Seat := Seat.mk 0 p.X p.Y 0
instance : Inhabited Seat := ⟨Seat.mk 0 0 0 0⟩
def poleB (v : Venue) (s j : Nat) : Bool := closeB (v.Seats.getD s default) (poleS (v.Poles.getD j default)) (v.Poles.getD j default).R
/-- The reasons why a seat is dead. -/
def killL (v : Venue) (s : Nat) : List Int := (if (s : Int) ∈ v.Kills then [-1] else []) ++ ((List.range v.Poles.length).filter (poleB v s)).map (fun j : Nat => (j : Int))
def deadB (v : Venue) (s : Nat) : Bool := decide ((killL v s).length = 0)
def usL (v : Venue) : List Bool := (List.range v.Seats.length).map (deadB v)
structure Small (k : Nat) (v : Venue) : Prop where
  hs : v.Seats.length < k
  hk : v.Kills.length < k
  hp : v.Poles.length < k
  b : k ≤ 4294967290
  b3 : 3 ≤ k
theorem sameInts_refl (k : Nat) (l : List Int) (hl : l.length < k) (hb : l.length ≤ 4294967290) : ref6_SameInts k l l = some true := by
  unfold ref6_SameInts
  rw [condNT rfl]
  have h := scan_go (f := fun n i => ref6_SameInts_l0 k l l n i) (len := l.length) (good := fun _ => True)
    (fun n i hi _ => by
      show ref6_SameInts_l0 k l l (n + 1) (i : Int) = _
      obtain ⟨y, e1, e2⟩ := some_get hi
      rw [ref6_SameInts_l0, condD (by omega), bindS e2, bindS e2, condNT rfl, wr_succ (by omega)])
    (fun n => by show ref6_SameInts_l0 k l l (n + 1) _ = _; rw [ref6_SameInts_l0, condN (by omega)]) l.length k 0 (by omega) hl (fun _ _ _ => trivial)
  have h : ref6_SameInts_l0 k l l k 0 = _ := h
  rw [bindS h, elim_go]
end Go.Px

set_option linter.unusedVariables false
set_option linter.unusedSimpArgs false
namespace Go.Px
open Go Go.Sh
end Go.Px

set_option linter.unusedVariables false
set_option linter.unusedSimpArgs false
namespace Go.Px
open Go Go.Sh
end Go.Px

set_option linter.unusedVariables false
set_option linter.unusedSimpArgs false
namespace Go.Px
open Go Go.Sh
def seatA (v : Venue) (s : Int) : Seat := v.Seats.getD s.toNat default
structure Pre (p : Nat → Bool) (m r : Nat) : Prop where
  le : r ≤ m
  all : ∀ j, j < r → p j = true
  stop : r < m → p r = false
theorem Pre.uniq {p : Nat → Bool} {m r r' : Nat} (h : Pre p m r) (h' : Pre p m r') : r = r' := by
  rcases Nat.lt_trichotomy r r' with hl | hl | hl
  · have h1 := h'.all r hl
    have h2 := h.stop (by have := h'.le; omega)
    rw [h1] at h2
    cases h2
  · exact hl
  · have h1 := h.all r' hl
    have h2 := h'.stop (by have := h.le; omega)
    rw [h1] at h2
    cases h2
theorem Pre.cut {p : Nat → Bool} {m n r r' : Nat} (h : Pre p m r) (h' : Pre p n r') (hm : m ≤ n) : r = min m r' := by
  refine h.uniq ⟨by omega, fun j hj => h'.all j (by omega), fun hl => ?_⟩
  have : min m r' = r' := by omega
  rw [this] at hl ⊢
  exact h'.stop (by omega)
/-- The length of the run at s. -/
noncomputable def runN (v : Venue) (U : List Bool) (s : Int) : Nat := (ref6_long 4294967290 v U s).getD 0 |>.toNat
end Go.Px

set_option linter.unusedVariables false
set_option linter.unusedSimpArgs false
namespace Go.Px
open Go Go.Sh
end Go.Px

set_option linter.unusedVariables false
set_option linter.unusedSimpArgs false
namespace Go.Px
open Go Go.Sh
abbrev MayP (p : Party) : Prop := 1 ≤ p.Size ∧ p.Size ≤ 8 ∧ 0 ≤ p.Wheels ∧ p.Wheels ≤ 2 ∧ 2 * p.Wheels ≤ p.Size
/-- The kind of the j-th seat of a piece; 0 outside. -/
def kd (v : Venue) (s : Int) (m : Nat) (j : Int) : Int := if 0 ≤ j ∧ j < m then (seatA v (s + j)).Kind else 0
def kF (v : Venue) (s : Int) (m : Nat) : Nat → Nat → Int → Int → Ex (Int × Int) Bool
  | 0, _, w, c => .go (w, c)
  | d + 1, j, w, c => if kd v s m j = 1 then (if ¬ kd v s m ((j : Int) - 1) = 2 ∧ ¬ kd v s m ((j : Int) + 1) = 2 then .rt false else kF v s m d (j + 1) (w + 1) c) else if kd v s m j = 2 then kF v s m d (j + 1) w (c + 1) else kF v s m d (j + 1) w c
def kindsB (v : Venue) (s : Int) (m : Nat) (want : Int) : Bool := match kF v s m m 0 0 0 with
  | .go (w, c) => decide (w = want ∧ (want = 0 → c ≤ 0))
  | .rt b => b
noncomputable def placeB (v : Venue) (U : List Bool) (p : Party) (s : Int) : Bool := decide (MayP p ∧ p.Size ≤ runN v U s) && kindsB v s p.Size.toNat p.Wheels
/- the reference -/
/- apart -/
def ApP (v : Venue) (s : Int) (m : Nat) (t : Int) (n : Nat) : Prop := ∀ x, x < m → ∀ y, y < n → ¬ s + (x : Int) = t + (y : Int) ∧ closeB (seatA v (s + x)) (seatA v (t + y)) v.Radius = false
open Classical in
noncomputable def apB (v : Venue) (s : Int) (m : Nat) (t : Int) (n : Nat) : Bool := decide (ApP v s m t n)
end Go.Px

set_option linter.unusedVariables false
set_option linter.unusedSimpArgs false
namespace Go.Px
open Go Go.Sh
noncomputable def plB (v : Venue) (p : Party) (s : Int) : Bool := mayB v && placeB v (usL v) p s
/-- Two parties, each at its place, apart. -/
noncomputable def aptB (v : Venue) (p : Party) (s : Int) (q : Party) (t : Int) : Bool := plB v p s && (plB v q t && apB v s p.Size.toNat t q.Size.toNat)
end Go.Px

set_option linter.unusedVariables false
set_option linter.unusedSimpArgs false
namespace Go.Px
open Go Go.Sh
/- venues alike in all but kills, poles and radius -/
end Go.Px

set_option linter.unusedVariables false
set_option linter.unusedSimpArgs false
namespace Go.Px
open Go Go.Sh
end Go.Px

set_option linter.unusedVariables false
set_option linter.unusedSimpArgs false
namespace Go.Px
open Go Go.Sh
section
open Classical
end
/-- The item at a place. -/
def aI {α : Type} [Inhabited α] (l : List α) (x : Int) : α := l.getD x.toNat default
theorem idx_aI {α : Type} [Inhabited α] {l : List α} {x : Int} (h0 : 0 ≤ x) (h : x < (l.length : Int)) : idx l x = some (aI l x) := by
  refine idx_get h0 ?_
  unfold aI
  rw [List.getD_eq_getElem?_getD, List.getElem?_eq_getElem (by omega)]
  rfl
abbrev AllMay (L : List Party) : Prop := L.length ≤ 512 ∧ ∀ i : Nat, i < L.length → MayP (aI L i)
/- maps -/
def pmN (P : List Pin) : Nat → List (Int × Int)
  | 0 => []
  | i + 1 => mset (pmN P i) (aI P i).Party (aI P i).First
/-- The pin of a party. -/
def pinAt (P : List Pin) (x : Int) : Option Int := mget (pmN P P.length) x
/-- The parties of the pins rise. -/
def RiseP (P : List Pin) : Prop := ∀ i j : Nat, i < j → j < P.length → (aI P i).Party < (aI P j).Party
/- the halls' own words for one hall that may be -/
section
variable {k : Nat} {v : Venue}
end
/- pins -/
structure PinG (v : Venue) (L : List Party) (P : List Pin) (i : Nat) : Prop where
  lo : 0 ≤ (aI P (i : Int)).Party
  hi : (aI P (i : Int)).Party < L.length
  rise : 0 < i → (aI P ((i - 1 : Nat) : Int)).Party < (aI P (i : Int)).Party
  pl : plB v (aI L (aI P (i : Int)).Party) (aI P (i : Int)).First = true
  ap : ∀ j : Nat, j < i → aptB v (aI L (aI P (i : Int)).Party) (aI P (i : Int)).First (aI L (aI P (j : Int)).Party) (aI P (j : Int)).First = true
abbrev PinOK (v : Venue) (L : List Party) (P : List Pin) : Prop := ∀ i, i < P.length → PinG v L P i
theorem PinOK.rise {v : Venue} {L : List Party} {P : List Pin} (h : PinOK v L P) : RiseP P := by
  intro i j hij hj
  obtain ⟨d, rfl⟩ : ∃ d, j = i + 1 + d := ⟨j - (i + 1), by omega⟩
  clear hij
  induction d with
  | zero =>
    have := (h (i + 1) hj).rise (by omega)
    exact this
  | succ d ih =>
    have := (h (i + 1 + (d + 1)) hj).rise (by omega)
    rw [show i + 1 + (d + 1) - 1 = i + 1 + d by omega] at this
    have := ih (by omega)
    omega
section
variable {k : Nat} {v : Venue} {L : List Party} {P : List Pin}
/-- What `In` asks for. -/
abbrev InOK (v : Venue) (L : List Party) (P : List Pin) : Prop := MayV v ∧ PinOK v L P ∧ AllMay L
/- plans -/
structure OkAt (v : Venue) (L : List Party) (P : List Pin) (r : List Int) (i : Nat) : Prop where
  pin : ∀ f, pinAt P (i : Int) = some f → aI r (i : Int) = f
  pl : ¬ aI r (i : Int) = -1 → plB v (aI L (i : Int)) (aI r (i : Int)) = true
  ap : ¬ aI r (i : Int) = -1 → ∀ j : Nat, j < i → ¬ aI r (j : Int) = -1 → aptB v (aI L (i : Int)) (aI r (i : Int)) (aI L (j : Int)) (aI r (j : Int)) = true
/-- A plan that may be. -/
structure PlanP (v : Venue) (L : List Party) (P : List Pin) (r : List Int) : Prop where
  inn : InOK v L P
  len : r.length = L.length
  at_ : ∀ i, i < r.length → OkAt v L P r i
end
end Go.Px

set_option linter.unusedVariables false
set_option linter.unusedSimpArgs false
namespace Go.Px
open Go Go.Sh
/-- A small problem. -/
structure Prob (v : Venue) (L : List Party) : Prop where
  may : MayV v
  n1 : v.Seats.length ≤ 9
  kl : v.Kills.length ≤ 9
  pl : v.Poles.length ≤ 9
  rad : InP v.Radius 0 24
  l4 : L.length ≤ 4
  ps : ∀ i : Nat, i < L.length → MayP (aI L (i : Int)) ∧ (aI L (i : Int)).Size ≤ 3
theorem Prob.all {v : Venue} {L : List Party} (h : Prob v L) : AllMay L := ⟨by have := h.l4; omega, fun i hi => (h.ps i hi).1⟩
theorem Prob.inn {v : Venue} {L : List Party} (h : Prob v L) {P : List Pin} (hP : PinOK v L P) : InOK v L P := ⟨h.may, hP, h.all⟩
/- all plans -/
section
variable {k : Nat} {v : Venue} {L : List Party}
/- persons -/
end
end Go.Px

set_option linter.unusedVariables false
set_option linter.unusedSimpArgs false
namespace Go.Px
open Go Go.Sh
theorem law18_told_eq : law18_told 20000 = some true := by decide +kernel
def mvL (a b : List Int) : List Int := ((List.range (min a.length b.length)).filter (fun j : Nat => decide (¬ aI a (j : Int) = aI b (j : Int)))).map (fun j : Nat => (j : Int))
theorem resolve_Moved_eq {k : Nat} (a b : List Int) (ha : a.length < k) (hb : k ≤ 4294967290) : resolve_Moved k a b = some (mvL a b) := by
  have hmin : (if (b.length : Int) < (a.length : Int) then (b.length : Int) else (a.length : Int)) = ((min a.length b.length : Nat) : Int) := by split <;> omega
  have e := gather0 (f := fun n w i => resolve_Moved_l0 k a b n w i) (len := min a.length b.length) (c := 0) (fun j : Nat => decide (¬ aI a (j : Int) = aI b (j : Int))) (fun j : Nat => (j : Int))
    (fun n i w hi hw => by
      show resolve_Moved_l0 k a b (n + 1) w (i : Int) = resolve_Moved_l0 k a b n _ _
      rw [resolve_Moved_l0, hmin, condD (by omega), bindS (idx_aI (by omega) (by omega)), bindS (idx_aI (by omega) (by omega)), wr_succ (by omega)]
      by_cases h : aI a (i : Int) = aI b (i : Int)
      · rw [condNT h, if_neg (by simpa using h)]
      · rw [condNF h, gdD (by simp only [List.length_singleton]; omega), if_pos (by simpa using h)])
    (fun n w => by show resolve_Moved_l0 k a b (n + 1) w _ = _; rw [resolve_Moved_l0, hmin, condN (by omega)])
    (k := k) (by omega) [] (by simp)
  have e : resolve_Moved_l0 k a b k [] 0 = _ := e
  unfold resolve_Moved
  rw [bindS e, List.nil_append]
  rfl
theorem mvL_len {a b : List Int} : (mvL a b).length ≤ a.length := by
  unfold mvL
  rw [List.length_map]
  have := List.length_filter_le (fun j : Nat => decide (¬ aI a (j : Int) = aI b (j : Int))) (List.range (min a.length b.length))
  rw [List.length_range] at this
  omega
theorem mvL_self (a : List Int) : mvL a a = [] := by
  unfold mvL
  rw [List.map_eq_nil_iff, List.filter_eq_nil_iff]
  intro j _
  simp
theorem mvL_symm (a b : List Int) : mvL b a = mvL a b := by
  unfold mvL
  rw [Nat.min_comm]
  congr 1
  refine List.filter_congr fun j _ => ?_
  rw [decide_eq_decide]
  exact ⟨fun h e => h e.symm, fun h e => h e.symm⟩
def mvN (a b : List Int) (j : Nat) : Nat := ((List.range j).filter (fun j : Nat => decide (¬ aI a (j : Int) = aI b (j : Int)))).length
theorem mvL_at {a b : List Int} {j : Nat} (hj : j < min a.length b.length) (h : ¬ aI a (j : Int) = aI b (j : Int)) : mvN a b j < (mvL a b).length ∧ aI (mvL a b) ((mvN a b j : Nat) : Int) = (j : Int) := by
  have e : mvL a b = ((List.range j).filter (fun j : Nat => decide (¬ aI a (j : Int) = aI b (j : Int)))).map (fun j : Nat => (j : Int)) ++ (j : Int) :: ((List.range' (j + 1) (min a.length b.length - (j + 1))).filter (fun j : Nat => decide (¬ aI a (j : Int) = aI b (j : Int)))).map (fun j : Nat => (j : Int)) := by
    unfold mvL
    have hr : List.range (min a.length b.length) = List.range j ++ (j :: List.range' (j + 1) (min a.length b.length - (j + 1))) := by
      rw [List.range_eq_range', List.range_eq_range', show min a.length b.length = j + ((min a.length b.length - (j + 1)) + 1) by omega, ← List.range'_append_1, List.range'_succ, Nat.zero_add]
      simp
      omega
    rw [hr, List.filter_append, List.map_append, List.filter_cons, if_pos (by simpa using h), List.map_cons]
  have hl : (((List.range j).filter (fun j : Nat => decide (¬ aI a (j : Int) = aI b (j : Int)))).map (fun j : Nat => (j : Int))).length = mvN a b j := by unfold mvN; rw [List.length_map]
  constructor
  · rw [e, List.length_append, hl, List.length_cons]; omega
  · unfold aI
    rw [Int.toNat_natCast, List.getD_eq_getElem?_getD]
    rw [e, List.getElem?_append_right (by omega), hl, Nat.sub_self]
    rfl
theorem mvN_succ {a b : List Int} {j : Nat} : mvN a b (j + 1) = mvN a b j + if ¬ aI a (j : Int) = aI b (j : Int) then 1 else 0 := by
  unfold mvN
  rw [List.range_succ, List.filter_append, List.length_append, List.filter_cons]
  by_cases h : aI a (j : Int) = aI b (j : Int)
  · rw [if_neg (by simpa using h), if_neg (by simpa using h)]; rfl
  · rw [if_pos (by simpa using h), if_pos h]; rfl
theorem mvN_le {a b : List Int} {j : Nat} : mvN a b j ≤ j := by
  unfold mvN
  have := List.length_filter_le (fun j : Nat => decide (¬ aI a (j : Int) = aI b (j : Int))) (List.range j)
  rw [List.length_range] at this
  exact this
theorem moved_l0 {k : Nat} {a b : List Int} (ha : a.length ≤ 1000) : ∀ (d n j : Nat), j + d = min a.length b.length → d < n → law18_ResolveMoved_l0 k a b (mvL a b) n ((mvN a b j : Nat) : Int) (j : Int) = some (.go ((mvN a b (min a.length b.length) : Nat) : Int))
  | d, 0, j, _, h => absurd h (by omega)
  | 0, n + 1, j, hj, _ => by
    obtain rfl : j = min a.length b.length := by omega
    rw [law18_ResolveMoved_l0]
    by_cases h : ((min a.length b.length : Nat) : Int) < (a.length : Int)
    · rw [condD h, condN (by omega)]
    · rw [condN h]
  | d + 1, n + 1, j, hj, hd => by
    have hs := mvN_succ (a := a) (b := b) (j := j)
    have hle := mvN_le (a := a) (b := b) (j := j)
    have ih := moved_l0 (k := k) (b := b) ha d n (j + 1) (by omega) (by omega)
    rw [law18_ResolveMoved_l0, condD (by omega), condD (by omega), bindS (idx_aI (by omega) (by omega)), bindS (idx_aI (by omega) (by omega)), wr_succ (i := j) (by omega)]
    by_cases h : aI a (j : Int) = aI b (j : Int)
    · rw [if_neg (by simpa using h)] at hs
      have hs : mvN a b (j + 1) = mvN a b j := hs
      rw [condNT h, ← ih, hs]
    · rw [if_pos h] at hs
      obtain ⟨h1, h2⟩ := mvL_at (a := a) (b := b) (j := j) (by omega) h
      rw [condNF h, condN (by omega), bindS (idx_aI (l := mvL a b) (by omega) (by omega)), h2, condNT rfl, wr_succ (i := mvN a b j) (by omega), ← hs, ih]
theorem ResolveMoved_true (a0 : List Int) (h0 : okLI a0) (a1 : List Int) (h1 : okLI a1) : ∃ k, law18_ResolveMoved k a0 a1 = some true := by
  refine ⟨20000, ?_⟩
  unfold law18_ResolveMoved
  by_cases hA : (12 : Int) < (a0.length : Int)
  · rw [condD hA, bindS rfl, cond_true, bindS law18_told_eq]
  rw [condN hA, bindS rfl]
  by_cases hB : (12 : Int) < (a1.length : Int)
  · rw [condD hB, bindS law18_told_eq]
  rw [condN hB, bindS (resolve_Moved_eq a0 a1 (by omega) (by omega))]
  have e := moved_l0 (k := 20000) (a := a0) (b := a1) (by omega) (min a0.length a1.length) 20000 0 (by omega) (by omega)
  have e : law18_ResolveMoved_l0 20000 a0 a1 (mvL a0 a1) 20000 0 0 = _ := e
  have hl : mvN a0 a1 (min a0.length a1.length) = (mvL a0 a1).length := by unfold mvN mvL; rw [List.length_map]
  have := mvL_len (a := a0) (b := a1)
  rw [bindS e, elim_go, bindS law18_told_eq, cond_true, condD (by omega), bindS (resolve_Moved_eq a0 a0 (by omega) (by omega)), mvL_self, condD (by simp), bindS (resolve_Moved_eq a1 a0 (by omega) (by omega)), mvL_symm, bindS (sameInts_refl _ _ (by omega) (by omega))]
end Go.Px
