/- What law3.Make makes: always a venue that may be. -/
import Derived.Test.YtlfpkjlaajfjnaaPVenue
set_option linter.unusedVariables false
set_option linter.unusedSimpArgs false
namespace Go.Px
open Go Go.Sh
theorem snoc_get {α : Type} {l : List α} {x s : α} {j : Nat} (h : (l ++ [x])[j]? = some s) : (j < l.length ∧ l[j]? = some s) ∨ (j = l.length ∧ s = x) := by
  rcases Nat.lt_or_ge j l.length with hl | hl
  · rw [List.getElem?_append_left hl] at h
    exact .inl ⟨hl, h⟩
  · rw [List.getElem?_append_right hl] at h
    rcases Nat.eq_or_lt_of_le hl with e | hl
    · rw [← e, Nat.sub_self] at h
      simp at h
      exact .inr ⟨e.symm, h.symm⟩
    · rw [List.getElem?_eq_none (by simp; omega)] at h
      cases h
theorem SeatsP.snoc {l : List Seat} {x : Seat} (h : SeatsP l) (hx : SeatP x) (hl : ∀ r, l[l.length - 1]? = some r → LessP r x) : SeatsP (l ++ [x]) := by
  intro j hj s hs
  rcases snoc_get hs with ⟨h1, h2⟩ | ⟨h1, rfl⟩
  · refine ⟨(h j h1 s h2).1, fun h0 r hr => (h j h1 s h2).2 h0 r ?_⟩
    rcases snoc_get hr with ⟨_, hr⟩ | ⟨e, _⟩
    · exact hr
    · omega
  · refine ⟨hx, fun h0 r hr => ?_⟩
    rcases snoc_get hr with ⟨_, hr⟩ | ⟨e, _⟩
    · rw [h1] at hr
      exact hl r hr
    · omega
theorem KillsP.snoc {l : List Int} {x m : Int} (h : KillsP l x) (h0 : 0 ≤ x) (hx : x < m) : KillsP (l ++ [x]) m := by
  intro j hj s hs
  rcases snoc_get hs with ⟨h1, h2⟩ | ⟨h1, rfl⟩
  · obtain ⟨a, b, c⟩ := h j h1 s h2
    refine ⟨a, by omega, fun h0 r hr => c h0 r ?_⟩
    rcases snoc_get hr with ⟨_, hr⟩ | ⟨e, _⟩
    · exact hr
    · omega
  · refine ⟨h0, hx, fun h0 r hr => ?_⟩
    rcases snoc_get hr with ⟨hl, hr⟩ | ⟨e, _⟩
    · exact (h _ hl r hr).2.1
    · omega
theorem KillsP.mono {l : List Int} {x m : Int} (h : KillsP l x) (hx : x ≤ m) : KillsP l m := fun j hj s hs => by
  obtain ⟨a, b, c⟩ := h j hj s hs
  exact ⟨a, by omega, c⟩
theorem PolesP.snoc {l : List Pole} {x : Pole} (h : PolesP l) (hx : CoordP x.X ∧ CoordP x.Y ∧ InP x.R 1 1048576) : PolesP (l ++ [x]) := by
  intro j hj s hs
  rcases snoc_get hs with ⟨h1, h2⟩ | ⟨h1, rfl⟩
  · exact h j h1 s h2
  · exact hx
structure MkI (S : List Seat) (rad : Int) (K : List Int) (P : List Pole) (row x : Int) (i : Nat) : Prop where
  len : S.length = i + 1
  seats : SeatsP S
  last : ∀ r, S[S.length - 1]? = some r → r.Row = row ∧ r.X = x
  r0 : 0 ≤ row
  r1 : row ≤ i
  x0 : 0 ≤ x
  x1 : x ≤ 15 * (i : Int)
  rad0 : InP rad 0 24
  kills : KillsP K S.length
  kl : K.length ≤ S.length
  poles : PolesP P
  pl : P.length ≤ S.length
structure MkF (m : Nat) (o : List Seat × Int × List Int × List Pole) : Prop where
  seats : SeatsP o.1
  n0 : 1 ≤ o.1.length
  n1 : o.1.length ≤ m
  rad : InP o.2.1 0 24
  kills : KillsP o.2.2.1 o.1.length
  kl : o.2.2.1.length ≤ m
  poles : PolesP o.2.2.2
  pl : o.2.2.2.length ≤ m
theorem make_l0 (k : Nat) (l : List Int) (m : Nat) (hm : m ≤ 100) : ∀ (n : Nat) S rad K P row x (i : Nat), MkI S rad K P row x i → S.length ≤ m → m - S.length < n → ∃ o, law3_Make_l0 k l (m : Int) n S rad K P row x (i : Int) = some o ∧ MkF m o
  | 0, S, rad, K, P, row, x, i, _, _, h => absurd h (by omega)
  | n + 1, S, rad, K, P, row, x, i, hI, hS, hn => by
    have hlen := hI.len
    have hx0 := hI.x0
    have hx1 := hI.x1
    have hr0 := hI.r0
    have hr1 := hI.r1
    have hkl := hI.kl
    have hpl := hI.pl
    rw [law3_Make_l0]
    by_cases hc : i < l.length ∧ S.length < m
    · rw [condD (by omega), bindS rfl, condD (by omega)]
      obtain ⟨y, _, e2⟩ := some_get hc.1
      rw [bindS e2]
      have h108 : ∃ o : Int × Int, (cond (decide (((IntKind.u64.wrap y).tmod 7) = 0)) (some (wr (row + 1), 0)) (cond (decide (((IntKind.u64.wrap y).tmod 7) = 1)) (some (row, wr ((wr (x + 10)) + 5))) (some (row, wr (x + 10))))) = some o ∧ ((o.1 = row + 1 ∧ o.2 = 0) ∨ (o.1 = row ∧ x < o.2 ∧ o.2 ≤ x + 15)) := by
        rw [wr_id (x := row + 1) (by omega) (by omega), wr_id (x := x + 10) (by omega) (by omega), wr_id (x := x + 10 + 5) (by omega) (by omega)]
        by_cases c1 : (IntKind.u64.wrap y).tmod 7 = 0
        · rw [condD c1]; exact ⟨_, rfl, .inl ⟨rfl, rfl⟩⟩
        rw [condN c1]
        by_cases c2 : (IntKind.u64.wrap y).tmod 7 = 1
        · rw [condD c2]; exact ⟨_, rfl, .inr ⟨rfl, by simp only; omega, by simp only; omega⟩⟩
        · rw [condN c2]; exact ⟨_, rfl, .inr ⟨rfl, by simp only; omega, by simp only; omega⟩⟩
      obtain ⟨o, e108, ho⟩ := h108
      rw [bindS e108]
      have h116 : ∃ kd : Int, (cond (decide (((IntKind.u64.wrap ((IntKind.u64.wrap y).tdiv 7)).tmod 6) = 0)) (some (1 : Int)) (cond (decide (((IntKind.u64.wrap ((IntKind.u64.wrap y).tdiv 7)).tmod 6) = 1)) (some 2) (cond (decide (((IntKind.u64.wrap ((IntKind.u64.wrap y).tdiv 7)).tmod 6) = 2)) (some 2) (some 0)))) = some kd ∧ InP kd 0 2 := by
        generalize (IntKind.u64.wrap ((IntKind.u64.wrap y).tdiv 7)).tmod 6 = q
        by_cases c1 : q = 0
        · rw [condD c1]; exact ⟨_, rfl, by omega⟩
        rw [condN c1]
        by_cases c2 : q = 1
        · rw [condD c2]; exact ⟨_, rfl, by omega⟩
        rw [condN c2]
        by_cases c3 : q = 2
        · rw [condD c3]; exact ⟨_, rfl, by omega⟩
        · rw [condN c3]; exact ⟨_, rfl, by omega⟩
      obtain ⟨kd, e116, hkd⟩ := h116
      have hrow : wr (10 * o.1) = 10 * o.1 := wr_id (by omega) (by omega)
      have hl1 : (S ++ [Seat.mk o.1 o.2 (10 * o.1) kd]).length = S.length + 1 := by simp
      rw [bindS e116, hrow, gdD (by simp only [List.length_singleton]; omega), hl1, show wr (((S.length + 1 : Nat) : Int) - 1) = (S.length : Int) by rw [wr_id (by omega) (by omega)]; omega]
      have h125 : ∃ K', (cond (decide (((IntKind.u64.wrap ((IntKind.u64.wrap y).tdiv 42)).tmod 9) = 0)) (gd (decide (K.length + ([(S.length : Int)]).length ≤ 4294967296)) (some (K ++ [(S.length : Int)]))) (some K)) = some K' ∧ KillsP K' ((S.length + 1 : Nat) : Int) ∧ K'.length ≤ S.length + 1 := by
        generalize (IntKind.u64.wrap ((IntKind.u64.wrap y).tdiv 42)).tmod 9 = q
        by_cases c1 : q = 0
        · rw [condD c1, gdD (by simp only [List.length_singleton]; omega)]
          exact ⟨_, rfl, hI.kills.snoc (by omega) (by omega), by simp; omega⟩
        · rw [condN c1]
          exact ⟨_, rfl, hI.kills.mono (by omega), by omega⟩
      obtain ⟨K', e125, hK, hKl⟩ := h125
      rw [bindS e125]
      obtain ⟨q0, q1⟩ := um ((IntKind.u64.wrap y).tdiv 500) 12 (by omega)
      have h132 : ∃ P', (cond (decide (((IntKind.u64.wrap ((IntKind.u64.wrap y).tdiv 42)).tmod 11) = 1)) (gd (decide (P.length + ([Pole.mk o.2 (10 * o.1) (wr (1 + (wr ((IntKind.u64.wrap ((IntKind.u64.wrap y).tdiv 500)).tmod 12))))]).length ≤ 4294967296)) (some (P ++ [Pole.mk o.2 (10 * o.1) (wr (1 + (wr ((IntKind.u64.wrap ((IntKind.u64.wrap y).tdiv 500)).tmod 12))))]))) (some P)) = some P' ∧ PolesP P' ∧ P'.length ≤ S.length + 1 := by
        generalize (IntKind.u64.wrap ((IntKind.u64.wrap y).tdiv 42)).tmod 11 = q
        rw [wr_id (x := (IntKind.u64.wrap ((IntKind.u64.wrap y).tdiv 500)).tmod 12) (by omega) (by omega), wr_id (x := 1 + (IntKind.u64.wrap ((IntKind.u64.wrap y).tdiv 500)).tmod 12) (by omega) (by omega)]
        by_cases c1 : q = 1
        · rw [condD c1, gdD (by simp only [List.length_singleton]; omega)]
          exact ⟨_, rfl, hI.poles.snoc ⟨by simp only; omega, by simp only; omega, by simp only; omega⟩, by simp; omega⟩
        · rw [condN c1]
          exact ⟨_, rfl, hI.poles, by omega⟩
      obtain ⟨P', e132, hP, hPl⟩ := h132
      rw [bindS e132, wr_succ (by omega)]
      obtain ⟨w0, w1⟩ := um ((IntKind.u64.wrap y).tdiv 300) 25 (by omega)
      have hN : ∀ rad', InP rad' 0 24 → MkI (S ++ [Seat.mk o.1 o.2 (10 * o.1) kd]) rad' K' P' o.1 o.2 (i + 1) := fun rad' hr => by
        refine ⟨by rw [hl1]; omega, hI.seats.snoc ⟨by simp only; omega, by simp only; omega, by simp only; omega, hkd⟩ (fun r hr => ?_), fun r hr => ?_, by omega, by omega, by omega, by omega, hr, by rw [hl1]; exact hK, by rw [hl1]; exact hKl, hP, by rw [hl1]; exact hPl⟩
        · obtain ⟨a, b⟩ := hI.last r hr
          show r.Row < o.1 ∨ (r.Row = o.1 ∧ r.X < o.2)
          omega
        · rw [hl1] at hr
          rcases snoc_get hr with ⟨h1, h2⟩ | ⟨_, rfl⟩
          · omega
          · exact ⟨rfl, rfl⟩
      have hrec : ∀ rad', InP rad' 0 24 → ∃ o', law3_Make_l0 k l (m : Int) n (S ++ [Seat.mk o.1 o.2 (10 * o.1) kd]) rad' K' P' o.1 o.2 ((i + 1 : Nat) : Int) = some o' ∧ MkF m o' := fun rad' hr =>
        make_l0 k l m hm n _ rad' K' P' o.1 o.2 (i + 1) (hN rad' hr) (by rw [hl1]; omega) (by rw [hl1]; omega)
      generalize (IntKind.u64.wrap ((IntKind.u64.wrap y).tdiv 42)).tmod 5 = q
      by_cases c1 : q = 3
      · rw [condD c1, wr_id (x := (IntKind.u64.wrap ((IntKind.u64.wrap y).tdiv 300)).tmod 25) (by omega) (by omega)]
        exact hrec _ (by omega)
      · rw [condN c1]
        exact hrec _ hI.rad0
    · have : (cond (decide ((i : Int) < (l.length : Int))) (some (decide ((S.length : Int) < (m : Int)))) (some false)) = some false := by
        by_cases c1 : i < l.length
        · rw [condD (by omega), decide_eq_false (by omega)]
        · rw [condN (by omega)]
      rw [this, bindS rfl, condF rfl]
      exact ⟨_, rfl, hI.seats, by simp only; omega, hS, hI.rad0, hI.kills, by simp only; omega, hI.poles, by simp only; omega⟩
/-- The venue that Make makes. -/
structure MadeV (m : Nat) (v : Venue) : Prop where
  may : MayV v
  n1 : v.Seats.length ≤ m
  gap : v.Gap = 10
  rad : InP v.Radius 0 24
  kl : v.Kills.length ≤ m
  pl : v.Poles.length ≤ m
theorem law3_Make_eq (k : Nat) (l : List Int) (m : Nat) (h1 : 1 ≤ m) (hm : m ≤ 100) (hk : 100 ≤ k) : ∃ v, law3_Make k l (m : Int) = some v ∧ MadeV m v := by
  unfold law3_Make
  have hI : MkI [Seat.mk 0 0 0 0] 0 [] [] 0 0 0 := by
    refine ⟨rfl, ?_, ?_, by omega, by omega, by omega, by omega, by omega, ?_, by simp, ?_, by simp⟩
    · intro j hj s hs
      have : j = 0 := by simp at hj; omega
      subst this
      simp at hs
      subst hs
      exact ⟨by decide, fun h => absurd h (by omega)⟩
    · intro r hr
      simp at hr
      subst hr
      exact ⟨rfl, rfl⟩
    · intro j hj
      simp at hj
    · intro j hj
      simp at hj
  obtain ⟨o, e, h⟩ := make_l0 k l m hm k _ _ _ _ _ _ 0 hI (by simpa using h1) (by simp; omega)
  have e' : law3_Make_l0 k l (m : Int) k [Seat.mk 0 0 0 0] 0 [] [] 0 0 0 = some o := e
  rw [bindS e']
  have a1 := h.n1
  have a2 := h.kl
  have a3 := h.pl
  have a4 := h.rad
  exact ⟨_, rfl, ⟨h.seats, h.n0, by simp only; omega, by simp only; omega, by simp only; omega, h.kills, by simp only; omega, h.poles, by simp only; omega⟩, h.n1, rfl, h.rad, h.kl, h.pl⟩
end Go.Px
