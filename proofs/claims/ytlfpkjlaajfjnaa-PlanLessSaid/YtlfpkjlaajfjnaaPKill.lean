/- What the geometry and the kills compute. -/
import Derived.Test.YtlfpkjlaajfjnaaPMake
set_option linter.unusedVariables false
set_option linter.unusedSimpArgs false
namespace Go.Px
open Go Go.Sh
/-- A scan that hands back something that holds `R`. -/
theorem scanR {ρ : Type} {f : Nat → Int → Option (Ex Unit ρ)} {len : Nat} (good : Nat → Prop) (R : ρ → Prop)
    (hs : ∀ n i : Nat, i < len → good i → f (n + 1) (i : Int) = f n ((i + 1 : Nat) : Int))
    (hf : ∀ n i : Nat, i < len → ¬ good i → ∃ r, f (n + 1) (i : Int) = some (.rt r) ∧ R r)
    (he : ∀ n, f (n + 1) (len : Int) = some (.go ())) : ∀ d n i : Nat, i + d = len → d < n →
    ((∀ j, i ≤ j → j < len → good j) ∧ f n (i : Int) = some (.go ())) ∨ ((∃ j, i ≤ j ∧ j < len ∧ ¬ good j) ∧ ∃ r, f n (i : Int) = some (.rt r) ∧ R r)
  | d, 0, i, _, h => absurd h (by omega)
  | 0, n + 1, i, hi, _ => by
    obtain rfl : i = len := by omega
    exact .inl ⟨fun j h1 h2 => by omega, he n⟩
  | d + 1, n + 1, i, hi, h => by
    rcases Classical.em (good i) with hh | hh
    · rw [hs n i (by omega) hh]
      rcases scanR good R hs hf he d n (i + 1) (by omega) (by omega) with ⟨a, b⟩ | ⟨⟨j, a1, a2, a3⟩, b⟩
      · refine .inl ⟨fun j h1 h2 => ?_, b⟩
        rcases Nat.lt_or_ge i j with hl | hl
        · exact a j hl h2
        · rw [show j = i by omega]; exact hh
      · exact .inr ⟨⟨j, by omega, a2, a3⟩, b⟩
    · exact .inr ⟨⟨i, by omega, by omega, hh⟩, hf n i (by omega) hh⟩
theorem sq_le {d : Int} (h : InP d (-2097152) 2097152) : 0 ≤ d * d ∧ d * d ≤ 4398046511104 := by
  have : d * d = ((d.natAbs * d.natAbs : Nat) : Int) := (Int.natAbs_mul_self' d).symm
  have h2 : d.natAbs * d.natAbs ≤ 2097152 * 2097152 := Nat.mul_le_mul (by omega) (by omega)
  omega
def far (a b : Seat) : Int := if CoordP a.X ∧ CoordP a.Y ∧ CoordP b.X ∧ CoordP b.Y then (a.X - b.X) * (a.X - b.X) + (a.Y - b.Y) * (a.Y - b.Y) else 0
theorem far_wr {a b : Seat} (h : CoordP a.X ∧ CoordP a.Y ∧ CoordP b.X ∧ CoordP b.Y) : wr ((wr ((wr (a.X - b.X)) * (wr (a.X - b.X)))) + (wr ((wr (a.Y - b.Y)) * (wr (a.Y - b.Y))))) = far a b := by
  unfold far
  rw [if_pos h]
  have h1 := sq_le (d := a.X - b.X) (by omega)
  have h2 := sq_le (d := a.Y - b.Y) (by omega)
  rw [wr_id (x := a.X - b.X) (by omega) (by omega), wr_id (x := a.Y - b.Y) (by omega) (by omega), wr_id (x := (a.X - b.X) * (a.X - b.X)) (by omega) (by omega), wr_id (x := (a.Y - b.Y) * (a.Y - b.Y)) (by omega) (by omega)]
  exact wr_id (by omega) (by omega)
theorem geom_Far_eq (k : Nat) (a b : Seat) (hk : 3 ≤ k) : geom_Far k a b = some (far a b) := by
  obtain ⟨n, rfl⟩ : ∃ n, k = n + 3 := ⟨k - 3, by omega⟩
  unfold geom_Far
  have i0 : idx [a, b] 0 = some a := rfl
  have i1 : idx [a, b] 1 = some b := rfl
  have w1 : wr (0 + 1) = 1 := by decide
  have w2 : wr (1 + 1) = 2 := by decide
  rw [geom_Far_l0, condD (by show (0 : Int) < 2; omega), bindS i0, bindS (venue_Coord_eq _ _), bindS (venue_Coord_eq _ _)]
  by_cases h1 : CoordP a.X
  · rw [condNT h1]
    by_cases h2 : CoordP a.Y
    · rw [condNT h2, w1, geom_Far_l0, condD (by show (1 : Int) < 2; omega), bindS i1, bindS (venue_Coord_eq _ _), bindS (venue_Coord_eq _ _)]
      by_cases h3 : CoordP b.X
      · rw [condNT h3]
        by_cases h4 : CoordP b.Y
        · rw [condNT h4, w2, geom_Far_l0, condN (by show ¬ (2 : Int) < 2; omega), bindS rfl, elim_go, far_wr ⟨h1, h2, h3, h4⟩]
        · rw [condNF h4, bindS rfl, elim_rt, far, if_neg (fun h => h4 h.2.2.2)]
      · rw [condNF h3, bindS rfl, elim_rt, far, if_neg (fun h => h3 h.2.2.1)]
    · rw [condNF h2, bindS rfl, elim_rt, far, if_neg (fun h => h2 h.2.1)]
  · rw [condNF h1, bindS rfl, elim_rt, far, if_neg (fun h => h1 h.1)]
theorem ref6_Far_eq (k : Nat) (a b : Seat) : ref6_Far k a b = some (far a b) := by
  unfold ref6_Far ref6_square
  rw [bindS (ref6_coord_eq _ _), bindS (ref6_coord_eq _ _), bindS (ref6_coord_eq _ _), bindS (ref6_coord_eq _ _)]
  by_cases h1 : CoordP a.X
  · rw [condNT h1]
    by_cases h2 : CoordP a.Y
    · rw [condNT h2]
      by_cases h3 : CoordP b.X
      · rw [condNT h3]
        by_cases h4 : CoordP b.Y
        · rw [condNT h4, bindS rfl, bindS rfl, far_wr ⟨h1, h2, h3, h4⟩]
        · rw [condNF h4, far, if_neg (fun h => h4 h.2.2.2)]
      · rw [condNF h3, far, if_neg (fun h => h3 h.2.2.1)]
    · rw [condNF h2, far, if_neg (fun h => h2 h.2.1)]
  · rw [condNF h1, far, if_neg (fun h => h1 h.1)]
def closeB (a b : Seat) (r : Int) : Bool := decide (far a b < wr (r * r))
theorem geom_Close_eq (k : Nat) (a b : Seat) (r : Int) (hk : 3 ≤ k) : geom_Close k a b r = some (closeB a b r) := by
  unfold geom_Close
  rw [bindS (geom_Far_eq k a b hk)]
  rfl
theorem ref6_square_eq (k : Nat) (r : Int) (h : okI r) : ref6_square k r 0 = some (wr (r * r)) := by
  obtain ⟨h1, h2⟩ := h
  unfold ref6_square
  rw [Int.sub_zero, wr_id (x := r) (by omega) (by omega)]
theorem idx_mem {l : List Int} {x : Int} : (∀ j, j < l.length → ∀ s, l[j]? = some s → s ≠ x) ↔ x ∉ l := by
  constructor
  · intro h hx
    obtain ⟨j, hj, e⟩ := List.getElem_of_mem hx
    exact h j hj x (by rw [List.getElem?_eq_getElem hj, e]) rfl
  · intro h j hj s e hs
    exact h (by rw [← hs]; exact List.mem_of_getElem? e)
theorem slices_Contains_int_eq (k : Nat) (l : List Int) (x : Int) (hl : l.length < k) (hb : l.length ≤ 4294967295) : slices_Contains_int k l x = some (decide (x ∈ l)) := by
  unfold slices_Contains_int slices_Index_int
  have h := scanR (f := fun n i => slices_Index_int_l0 k l x n i) (len := l.length) (fun j => ∀ s, l[j]? = some s → s ≠ x) (fun r => 0 ≤ r)
    (fun n i hi hg => by
      obtain ⟨s, e1, e2⟩ := some_get hi
      have := hg s e1
      show slices_Index_int_l0 k l x (n + 1) (i : Int) = _
      rw [slices_Index_int_l0, condD (by omega), bindS e2, condN (fun h => this h.symm), wr_succ (by omega)])
    (fun n i hi hg => by
      obtain ⟨s, e1, e2⟩ := some_get hi
      refine ⟨(i : Int), ?_, by omega⟩
      show slices_Index_int_l0 k l x (n + 1) (i : Int) = _
      rw [slices_Index_int_l0, condD (by omega), bindS e2, condD]
      apply Classical.byContradiction
      intro hh
      refine hg fun s' e' hx => ?_
      rw [e1] at e'
      cases e'
      exact hh hx.symm)
    (fun n => by show slices_Index_int_l0 k l x (n + 1) _ = _; rw [slices_Index_int_l0, condN (by omega)])
    l.length k 0 (by omega) hl
  rcases h with ⟨a, b⟩ | ⟨⟨j, _, a2, a3⟩, r, b, hr⟩
  · have b : slices_Index_int_l0 k l x k 0 = _ := b
    rw [bindS b, elim_go, bindS rfl, decide_eq_false (by omega), decide_eq_false (idx_mem.1 fun j hj => a j (by omega) hj)]
  · have b : slices_Index_int_l0 k l x k 0 = _ := b
    rw [bindS b, elim_rt, bindS rfl, decide_eq_true hr, decide_eq_true]
    apply Classical.byContradiction
    intro hx
    exact a3 (fun s e => idx_mem.2 hx j a2 s e)
def poleS (p : Pole) : Seat := Seat.mk 0 p.X p.Y 0
instance : Inhabited Seat := ⟨Seat.mk 0 0 0 0⟩
def poleB (v : Venue) (s j : Nat) : Bool := closeB (v.Seats.getD s default) (poleS (v.Poles.getD j default)) (v.Poles.getD j default).R
/-- The reasons why a seat is dead. -/
def killL (v : Venue) (s : Nat) : List Int := (if (s : Int) ∈ v.Kills then [-1] else []) ++ ((List.range v.Poles.length).filter (poleB v s)).map (fun j : Nat => (j : Int))
theorem getD_of {α : Type} {l : List α} {i : Nat} {s d : α} (h : l[i]? = some s) : l.getD i d = s := by rw [List.getD_eq_getElem?_getD, h]; rfl
theorem kill_by_eq (k : Nat) (v : Venue) (s : Nat) (hs : s < v.Seats.length) (hk : 3 ≤ k) (h2 : v.Kills.length < k) (h3 : v.Poles.length < k) (hb : k ≤ 4294967290) : kill_by k v (s : Int) = some (killL v s) := by
  unfold kill_by killL
  rw [bindS (slices_Contains_int_eq k _ _ h2 (by omega))]
  have e1 : (cond (decide ((s : Int) ∈ v.Kills)) (gd (decide (([(-1 : Int)]).length ≤ 4294967296)) (some [(-1 : Int)])) (some [])) = some (if (s : Int) ∈ v.Kills then [-1] else []) := by
    by_cases h : (s : Int) ∈ v.Kills
    · rw [condD h, if_pos h, gdD (by simp)]
    · rw [condN h, if_neg h]
  rw [bindS e1]
  obtain ⟨t, t1, t2⟩ := some_get hs
  have h := gather0 (f := fun n a i => kill_by_l0 k v (s : Int) n a i) (len := v.Poles.length) (c := 1) (poleB v s) (fun j : Nat => (j : Int))
    (fun n i w hi hw => by
      obtain ⟨p, e1, e2⟩ := some_get hi
      show kill_by_l0 k v (s : Int) (n + 1) w (i : Int) = kill_by_l0 k v (s : Int) n _ _
      have hp : poleB v s i = closeB t (Seat.mk 0 p.X p.Y 0) p.R := by unfold poleB poleS; rw [getD_of t1, getD_of e1]
      rw [kill_by_l0, condD (by omega), bindS e2, bindS t2, bindS (geom_Close_eq _ _ _ _ hk), ← hp, wr_succ (by omega)]
      cases poleB v s i
      · rw [condF rfl, if_neg (by simp)]
      · rw [condT rfl, gdD (by simp only [List.length_singleton]; omega), if_pos rfl])
    (fun n w => by show kill_by_l0 k v (s : Int) (n + 1) w _ = _; rw [kill_by_l0, condN (by omega)])
    h3 (if (s : Int) ∈ v.Kills then [-1] else []) (by split <;> simp)
  have h : kill_by_l0 k v (s : Int) k _ 0 = _ := h
  rw [bindS h]
theorem KillsP.lt {l : List Int} {m : Int} (h : KillsP l m) : ∀ (d j : Nat) {a b : Int}, l[j]? = some a → l[j + 1 + d]? = some b → a < b
  | 0, j, a, b, ha, hb => by
    have := (List.getElem?_eq_some_iff.1 hb).1
    exact (h (j + 1) this b hb).2.2 (by omega) a ha
  | d + 1, j, a, b, ha, hb => by
    have hl := (List.getElem?_eq_some_iff.1 hb).1
    obtain ⟨c, e1, _⟩ := some_get (l := l) (i := j + 1 + d) (by omega)
    have h1 := h.lt d j ha e1
    have h2 := (h _ hl b hb).2.2 (by omega) c e1
    omega
theorem ref6_killedBy_l0_eq (k : Nat) (v : Venue) (s : Int) {m : Int} (hK : KillsP v.Kills m) (hb : v.Kills.length ≤ 4294967290) : ∀ (d n i : Nat) (w : List Int), i + d = v.Kills.length → d < n → w.length ≤ 0 →
    ref6_killedBy_l0 k v s n w (i : Int) = some (if s ∈ v.Kills.drop i then [-1] else [])
  | d, 0, i, w, _, h, _ => absurd h (by omega)
  | 0, n + 1, i, w, hi, _, hw => by
    obtain rfl : i = v.Kills.length := by omega
    obtain rfl : w = [] := List.length_eq_zero_iff.1 (by omega)
    rw [ref6_killedBy_l0, condN (by omega)]
    simp
  | d + 1, n + 1, i, w, hi, h, hw => by
    obtain rfl : w = [] := List.length_eq_zero_iff.1 (by omega)
    have hil : i < v.Kills.length := by omega
    obtain ⟨y, e1, e2⟩ := some_get hil
    have hd : v.Kills.drop i = y :: v.Kills.drop (i + 1) := by
      rw [List.drop_eq_getElem_cons hil]
      congr 1
      rw [List.getElem?_eq_getElem hil] at e1
      exact Option.some.inj e1
    rw [ref6_killedBy_l0, condD (by omega), bindS e2, wr_succ (by omega), hd]
    by_cases hy : y = s
    · rw [condD hy, gdD (by simp), if_pos (by rw [hy]; simp)]
      have : ∀ (d n j : Nat), j + d = v.Kills.length → i < j → d < n → ref6_killedBy_l0 k v s n ([] ++ [-1]) (j : Int) = some [-1] := by
        intro d
        induction d with
        | zero =>
          intro n j hj hij hd
          obtain ⟨n, rfl⟩ : ∃ q, n = q + 1 := ⟨n - 1, by omega⟩
          rw [ref6_killedBy_l0, condN (by omega)]
          rfl
        | succ d ih =>
          intro n j hj hij hd
          obtain ⟨n, rfl⟩ : ∃ q, n = q + 1 := ⟨n - 1, by omega⟩
          obtain ⟨z, f1, f2⟩ := some_get (l := v.Kills) (i := j) (by omega)
          have hlt := hK.lt (j - (i + 1)) i e1 (b := z) (by rw [show i + 1 + (j - (i + 1)) = j by omega]; exact f1)
          rw [ref6_killedBy_l0, condD (by omega), bindS f2, condN (by omega), wr_succ (by omega)]
          exact ih n (j + 1) (by omega) (by omega) (by omega)
      exact this d n (i + 1) (by omega) (by omega) (by omega)
    · rw [condN hy, ref6_killedBy_l0_eq k v s hK hb d n (i + 1) [] (by omega) (by omega) (by simp)]
      congr 1
      have hys : ¬ s = y := fun h => hy h.symm
      simp [hys]
theorem ref6_killedBy_eq (k : Nat) (v : Venue) (s : Nat) (hs : s < v.Seats.length) {m : Int} (hK : KillsP v.Kills m) (hP : PolesP v.Poles) (hk : 3 ≤ k) (h2 : v.Kills.length < k) (h3 : v.Poles.length < k) (hb : k ≤ 4294967290) : ref6_killedBy k v (s : Int) = some (killL v s) := by
  unfold ref6_killedBy killL
  have h0 : ref6_killedBy_l0 k v (s : Int) k [] 0 = _ := ref6_killedBy_l0_eq k v (s : Int) hK (by omega) v.Kills.length k 0 [] (by omega) h2 (by simp)
  rw [bindS h0, List.drop_zero]
  obtain ⟨t, t1, t2⟩ := some_get hs
  have h := gather0 (f := fun n a i => ref6_killedBy_l1 k v (s : Int) n a i) (len := v.Poles.length) (c := 1) (poleB v s) (fun j : Nat => (j : Int))
    (fun n i w hi hw => by
      obtain ⟨p, e1, e2⟩ := some_get hi
      show ref6_killedBy_l1 k v (s : Int) (n + 1) w (i : Int) = ref6_killedBy_l1 k v (s : Int) n _ _
      have hp : poleB v s i = closeB t (Seat.mk 0 p.X p.Y 0) p.R := by unfold poleB poleS; rw [getD_of t1, getD_of e1]
      have hR := (hP i hi p e1).2.2
      rw [ref6_killedBy_l1, condD (by omega), bindS e2, bindS t2, bindS (ref6_Far_eq _ _ _), bindS (ref6_square_eq _ _ ⟨by omega, by omega⟩), wr_succ (by omega)]
      show cond (closeB t (Seat.mk 0 p.X p.Y 0) p.R) _ _ = _
      rw [← hp]
      cases poleB v s i
      · rw [condF rfl, if_neg (by simp)]
      · rw [condT rfl, gdD (by simp only [List.length_singleton]; omega), if_pos rfl])
    (fun n w => by show ref6_killedBy_l1 k v (s : Int) (n + 1) w _ = _; rw [ref6_killedBy_l1, condN (by omega)])
    h3 (if (s : Int) ∈ v.Kills then [-1] else []) (by split <;> simp)
  have h : ref6_killedBy_l1 k v (s : Int) k _ 0 = _ := h
  rw [bindS h]
def deadB (v : Venue) (s : Nat) : Bool := decide ((killL v s).length = 0)
def usL (v : Venue) : List Bool := (List.range v.Seats.length).map (deadB v)
structure Small (k : Nat) (v : Venue) : Prop where
  hs : v.Seats.length < k
  hk : v.Kills.length < k
  hp : v.Poles.length < k
  b : k ≤ 4294967290
  b3 : 3 ≤ k
theorem idx_set_ok {α : Type} {l : List α} {i : Nat} (h : i < l.length) : ∃ y, idx l (i : Int) = some y := ⟨_, idx_nat h⟩
theorem kill_Usable_eq {k : Nat} {v : Venue} (hv : Small k v) : kill_Usable k v = some (cond (mayB v) (usL v) []) := by
  have h1 := hv.hs
  have hb := hv.b
  unfold kill_Usable
  rw [bindS (venue_May_eq k v hv.hs hv.hk hv.hp (by omega))]
  cases hm : mayB v
  · rfl
  have hM := mayB_iff.1 hm
  rw [cNT, gdD (by omega)]
  have h := fill0 (f := fun n a i => kill_Usable_l0 k v n a i) (len := v.Seats.length) (deadB v)
    (fun n i w hi hw => by
      show kill_Usable_l0 k v (n + 1) w (i : Int) = kill_Usable_l0 k v n _ _
      obtain ⟨y, e⟩ := idx_set_ok (l := w) (i := i) (by omega)
      rw [kill_Usable_l0, condD (by rw [List.length_replicate]; omega), bindS (kill_by_eq k v i hi hv.b3 hv.hk hv.hp hv.b), bindS e, wr_succ (by omega), Int.toNat_natCast]
      congr 2
      unfold deadB
      rw [decide_eq_decide]
      omega)
    (fun n w hw => by show kill_Usable_l0 k v (n + 1) w _ = _; rw [kill_Usable_l0, condN (by rw [List.length_replicate]; omega)])
    h1 (List.replicate (v.Seats.length : Int).toNat false) (by rw [List.length_replicate]; omega)
  have h : kill_Usable_l0 k v k _ 0 = _ := h
  rw [bindS h]
  rfl
theorem ref6_Usable_eq {k : Nat} {v : Venue} (hv : Small k v) : ref6_Usable k v = some (cond (mayB v) (usL v) []) := by
  have h1 := hv.hs
  have hb := hv.b
  unfold ref6_Usable
  rw [bindS (ref2_May_eq k v hv.hs hv.hk hv.hp (by omega))]
  cases hm : mayB v
  · rfl
  have hM := mayB_iff.1 hm
  rw [cNT, gdD (by omega)]
  have h := fill0 (f := fun n a i => ref6_Usable_l0 k v n a i) (len := v.Seats.length) (deadB v)
    (fun n i w hi hw => by
      show ref6_Usable_l0 k v (n + 1) w (i : Int) = ref6_Usable_l0 k v n _ _
      obtain ⟨y, e⟩ := idx_set_ok (l := w) (i := i) (by omega)
      rw [ref6_Usable_l0, condD (by omega), bindS (ref6_killedBy_eq k v i hi hM.kills hM.poles hv.b3 hv.hk hv.hp hv.b), bindS e, wr_succ (by omega), Int.toNat_natCast]
      congr 2
      unfold deadB
      rw [decide_eq_decide]
      omega)
    (fun n w hw => by show ref6_Usable_l0 k v (n + 1) w _ = _; rw [ref6_Usable_l0, condN (by omega)])
    h1 (List.replicate (v.Seats.length : Int).toNat false) (by rw [List.length_replicate]; omega)
  have h : ref6_Usable_l0 k v k _ 0 = _ := h
  rw [bindS h]
  rfl
end Go.Px
