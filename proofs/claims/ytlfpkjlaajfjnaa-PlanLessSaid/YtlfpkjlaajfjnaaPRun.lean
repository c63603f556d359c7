/- What the runs compute. -/
import Derived.Test.YtlfpkjlaajfjnaaPKill
set_option linter.unusedVariables false
set_option linter.unusedSimpArgs false
namespace Go.Px
open Go Go.Sh
def freeB (v : Venue) (U : List Bool) (s : Int) : Bool := decide (0 ≤ s ∧ s < v.Seats.length) && (U[s.toNat]?).getD false
def seatA (v : Venue) (s : Int) : Seat := v.Seats.getD s.toNat default
def nextB (v : Venue) (s : Int) : Bool := decide (0 ≤ s ∧ s + 1 < v.Seats.length) && (decide ((seatA v (s + 1)).Row = (seatA v s).Row) && decide (wr ((seatA v (s + 1)).X - (seatA v s).X) ≤ v.Gap))
theorem seat_idx {v : Venue} {s : Int} (h0 : 0 ≤ s) (h : s < v.Seats.length) : idx v.Seats s = some (seatA v s) := by
  obtain ⟨j, rfl⟩ := Int.eq_ofNat_of_zero_le h0
  obtain ⟨t, e1, e2⟩ := some_get (l := v.Seats) (i := j) (by omega)
  rw [e2]
  unfold seatA
  rw [Int.toNat_natCast, getD_of e1]
theorem run_free_eq (k : Nat) (v : Venue) (U : List Bool) (s : Int) : run_free k v U s = some (freeB v U s) := by
  unfold run_free freeB
  by_cases h1 : s < 0
  · rw [condD h1, decide_eq_false (by omega)]; rfl
  by_cases h2 : (v.Seats.length : Int) ≤ s
  · rw [condN h1, condD h2, decide_eq_false (by omega)]; rfl
  rw [condN h1, condN h2, decide_eq_true (p := 0 ≤ s ∧ s < (v.Seats.length : Int)) (by omega), Bool.true_and]
  by_cases h3 : (U.length : Int) ≤ s
  · rw [condD h3, List.getElem?_eq_none (by omega)]; rfl
  · have h := List.getElem?_eq_getElem (l := U) (i := s.toNat) (by omega)
    rw [condN h3, bindS (idx_get (by omega) h), h]; rfl
theorem run_next_eq (k : Nat) (v : Venue) (s : Int) (hl : v.Seats.length ≤ 4294967290) : run_next k v s = some (nextB v s) := by
  unfold run_next nextB
  rw [wr_id (x := (v.Seats.length : Int) - 1) (by omega) (by omega)]
  by_cases h1 : 0 ≤ s
  · by_cases h2 : s < (v.Seats.length : Int) - 1
    · rw [condD h1, condD h2, wr_id (x := s + 1) (by omega) (by omega), bindS (seat_idx (by omega) (by omega)), bindS (seat_idx (by omega) (by omega)), decide_eq_true (p := 0 ≤ s ∧ s + 1 < (v.Seats.length : Int)) (by omega), Bool.true_and]
      by_cases h3 : (seatA v (s + 1)).Row = (seatA v s).Row
      · rw [condD h3, bindS (seat_idx (by omega) (by omega)), bindS (seat_idx (by omega) (by omega)), decide_eq_true h3, Bool.true_and]
      · rw [condN h3, decide_eq_false h3, Bool.false_and]
    · rw [condD h1, condN h2, decide_eq_false (by omega), Bool.false_and]
  · rw [condN h1, decide_eq_false (by omega), Bool.false_and]
theorem ref6_seat_eq (k : Nat) (v : Venue) (s : Int) : ref6_seat k v s = some (decide (0 ≤ s ∧ s < v.Seats.length)) := by
  unfold ref6_seat
  exact condAnd rfl
theorem ref6_next_eq (k : Nat) (v : Venue) (s : Int) (h0 : -1 ≤ s) (h1 : s < 4611686018427387904) (hl : v.Seats.length ≤ 4294967290) : ref6_next k v s = some (nextB v s) := by
  unfold ref6_next nextB
  rw [bindS (ref6_seat_eq _ _ _), wr_id (x := s + 1) (by omega) (by omega), bindS (ref6_seat_eq _ _ _)]
  by_cases h2 : 0 ≤ s ∧ s < v.Seats.length
  · rw [condD h2]
    by_cases h3 : 0 ≤ s + 1 ∧ s + 1 < v.Seats.length
    · rw [condD h3, bindS (seat_idx (by omega) (by omega)), bindS (seat_idx (by omega) (by omega)), decide_eq_true (p := 0 ≤ s ∧ s + 1 < (v.Seats.length : Int)) (by omega), Bool.true_and]
      by_cases h4 : (seatA v (s + 1)).Row = (seatA v s).Row
      · rw [condD h4.symm, bindS (seat_idx (by omega) (by omega)), bindS (seat_idx (by omega) (by omega)), decide_eq_true h4, Bool.true_and]
      · rw [condN (fun h => h4 h.symm), decide_eq_false h4, Bool.false_and]
    · rw [condN h3, decide_eq_false (by omega), Bool.false_and]
  · rw [condN h2, decide_eq_false (by omega), Bool.false_and]
def onB (v : Venue) (U : List Bool) (s : Int) (i : Nat) : Bool := freeB v U (s + i) && (decide (i = 0) || nextB v (s + i - 1))
structure Pre (p : Nat → Bool) (m r : Nat) : Prop where
  le : r ≤ m
  all : ∀ j, j < r → p j = true
  stop : r < m → p r = false
theorem Pre.uniq {p : Nat → Bool} {m r r' : Nat} (h : Pre p m r) (h' : Pre p m r') : r = r' := by
  rcases Nat.lt_trichotomy r r' with hl | hl | hl
  · have h1 := h'.all r hl
    have h2 := h.stop (by have := h'.le; omega)
    rw [h1] at h2
    cases h2
  · exact hl
  · have h1 := h.all r' hl
    have h2 := h'.stop (by have := h.le; omega)
    rw [h1] at h2
    cases h2
theorem Pre.cut {p : Nat → Bool} {m n r r' : Nat} (h : Pre p m r) (h' : Pre p n r') (hm : m ≤ n) : r = min m r' := by
  refine h.uniq ⟨by omega, fun j hj => h'.all j (by omega), fun hl => ?_⟩
  have : min m r' = r' := by omega
  rw [this] at hl ⊢
  exact h'.stop (by omega)
theorem free_low {v : Venue} {U : List Bool} {s : Int} (h : freeB v U s = true) : 0 ≤ s ∧ s < v.Seats.length := by
  unfold freeB at h
  rw [Bool.and_eq_true, decide_eq_true_iff] at h
  exact h.1
theorem next_low {v : Venue} {s : Int} (h : nextB v s = true) : 0 ≤ s ∧ s + 1 < v.Seats.length := by
  unfold nextB at h
  rw [Bool.and_eq_true, decide_eq_true_iff] at h
  exact h.1
theorem onB_zero (v : Venue) (U : List Bool) (s : Int) : onB v U s 0 = freeB v U s := by
  unfold onB
  simp
theorem run_long_l0_eq (k : Nat) (v : Venue) (U : List Bool) (s : Int) (hs : okI s) (m : Nat) (hl : v.Seats.length ≤ 4294967290) (hm : m ≤ 4294967290) : ∀ (d n i : Nat), i + d = m → d < n → (∀ j, j < i → onB v U s j = true) → ∃ r : Nat, run_long_l0 k v U s (m : Int) n (i : Int) = some (r : Int) ∧ Pre (onB v U s) m r
  | d, 0, i, _, h, _ => absurd h (by omega)
  | 0, n + 1, i, hi, _, ha => by
    rw [run_long_l0, condN (by omega)]
    exact ⟨i, rfl, by omega, ha, fun h => by omega⟩
  | d + 1, n + 1, i, hi, h, ha => by
    obtain ⟨s0, s1⟩ := hs
    have hw : i = 0 ∨ (0 < i ∧ 0 ≤ s ∧ s < v.Seats.length) := by
      rcases Nat.eq_zero_or_pos i with e | e
      · exact .inl e
      · have := ha 0 e
        rw [onB_zero] at this
        exact .inr ⟨e, free_low this⟩
    have e1 : wr (s + (i : Int)) = s + i := by
      rcases hw with rfl | h
      · rw [show s + ((0 : Nat) : Int) = s by omega]
        exact wr_id s0 s1
      · exact wr_id (by omega) (by omega)
    rw [run_long_l0, condD (by omega), e1, bindS (run_free_eq _ _ _ _), wr_succ (by omega)]
    have hstop : onB v U s i = false → ∃ r : Nat, (some (i : Int)) = some (r : Int) ∧ Pre (onB v U s) m r := fun h => ⟨i, rfl, by omega, ha, fun _ => h⟩
    have hgo : onB v U s i = true → ∃ r : Nat, run_long_l0 k v U s (m : Int) n ((i + 1 : Nat) : Int) = some (r : Int) ∧ Pre (onB v U s) m r := fun h =>
      run_long_l0_eq k v U s ⟨s0, s1⟩ m hl hm d n (i + 1) (by omega) (by omega) (fun j hj => by
        rcases Nat.lt_or_ge j i with hh | hh
        · exact ha j hh
        · rw [show j = i by omega]; exact h)
    cases hf : freeB v U (s + i)
    · rw [condF rfl]
      exact hstop (by unfold onB; rw [hf, Bool.false_and])
    · rw [condT rfl]
      by_cases h0 : i = 0
      · rw [condD (by omega)]
        exact hgo (by unfold onB; rw [hf, decide_eq_true h0]; rfl)
      · rw [condN (by omega), wr_id (x := s + (i : Int) - 1) (by omega) (by omega), bindS (run_next_eq _ _ _ hl)]
        cases hn : nextB v (s + i - 1)
        · rw [condF rfl]
          exact hstop (by unfold onB; rw [hf, hn, decide_eq_false h0]; rfl)
        · rw [condT rfl]
          exact hgo (by unfold onB; rw [hf, hn, decide_eq_false h0]; rfl)
theorem run_long_eq (k : Nat) (v : Venue) (U : List Bool) (s : Int) (hs : okI s) (m : Nat) (hl : v.Seats.length ≤ 4294967290) (hm : m < k) (hk : k ≤ 4294967290) : ∃ r : Nat, run_long k v U s (m : Int) = some (r : Int) ∧ Pre (onB v U s) m r := by
  unfold run_long
  obtain ⟨r, e, h⟩ := run_long_l0_eq k v U s hs m hl (by omega) m k 0 (by omega) hm (fun j hj => by omega)
  have e : run_long_l0 k v U s (m : Int) k 0 = _ := e
  exact ⟨r, by rw [bindS e], h⟩
theorem ref6_is_eq (k : Nat) (U : List Bool) (s : Int) (h0 : 0 ≤ s) : ref6_is k U s = some ((U[s.toNat]?).getD false) := by
  unfold ref6_is
  rw [condD h0]
  by_cases h3 : s < (U.length : Int)
  · have h := List.getElem?_eq_getElem (l := U) (i := s.toNat) (by omega)
    rw [condD h3, bindS (idx_get (by omega) h), h]; rfl
  · rw [condN h3, List.getElem?_eq_none (by omega)]; rfl
theorem ref6_long_l0_eq (k : Nat) (v : Venue) (U : List Bool) (s : Int) (hs : 0 ≤ s ∧ s < v.Seats.length) (hl : v.Seats.length ≤ 4294967290) : ∀ (d n i : Nat), i + d = v.Seats.length → d < n → 0 < i → (∀ j, j < i → onB v U s j = true) → ∃ r : Nat, ref6_long_l0 k v U s n (i : Int) = some (r : Int) ∧ Pre (onB v U s) v.Seats.length r
  | d, 0, i, _, h, _, _ => absurd h (by omega)
  | d, n + 1, i, hi, h, h0, ha => by
    rw [ref6_long_l0, wr_id (x := s + (i : Int)) (by omega) (by omega), wr_id (x := s + (i : Int) - 1) (by omega) (by omega), bindS (ref6_next_eq _ _ _ (by omega) (by omega) hl), bindS (ref6_is_eq _ _ _ (by omega)), wr_succ (by omega)]
    have hstop : (i < v.Seats.length → onB v U s i = false) → ∃ r : Nat, (some (i : Int)) = some (r : Int) ∧ Pre (onB v U s) v.Seats.length r := fun h => ⟨i, rfl, by omega, ha, h⟩
    cases hn : nextB v (s + i - 1)
    · rw [condF rfl]
      exact hstop fun _ => by unfold onB; rw [hn, decide_eq_false (by omega), Bool.or_false, Bool.and_false]
    · have hlow := next_low hn
      obtain ⟨d, rfl⟩ : ∃ q, d = q + 1 := ⟨d - 1, by omega⟩
      rw [condT rfl]
      cases hu : (U[(s + (i : Int)).toNat]?).getD false
      · rw [condF rfl]
        exact hstop fun _ => by unfold onB freeB; rw [hu, Bool.and_false, Bool.false_and]
      · rw [condT rfl]
        have hok : onB v U s i = true := by unfold onB freeB; rw [hn, hu, decide_eq_true (by omega)]; simp
        exact ref6_long_l0_eq k v U s hs hl d n (i + 1) (by omega) (by omega) (by omega) (fun j hj => by
          rcases Nat.lt_or_ge j i with hh | hh
          · exact ha j hh
          · rw [show j = i by omega]; exact hok)
theorem ref6_long_eq (k : Nat) (v : Venue) (U : List Bool) (s : Int) (hl : v.Seats.length < k) (hk : k ≤ 4294967290) : ∃ r : Nat, ref6_long k v U s = some (r : Int) ∧ Pre (onB v U s) v.Seats.length r := by
  unfold ref6_long
  rw [bindS (ref6_seat_eq _ _ _)]
  have hzero : freeB v U s = false → ∃ r : Nat, (some (0 : Int)) = some (r : Int) ∧ Pre (onB v U s) v.Seats.length r := fun h => ⟨0, rfl, by omega, fun j hj => by omega, fun _ => by rw [onB_zero, h]⟩
  by_cases h1 : 0 ≤ s ∧ s < v.Seats.length
  · rw [condNT h1, bindS (ref6_is_eq _ _ _ h1.1), bindS rfl]
    cases hu : (U[s.toNat]?).getD false
    · rw [cNF]
      exact hzero (by unfold freeB; rw [hu, Bool.and_false])
    · rw [cNT]
      have hf : freeB v U s = true := by unfold freeB; rw [hu, decide_eq_true h1]; rfl
      obtain ⟨r, e, h⟩ := ref6_long_l0_eq k v U s h1 (by omega) (v.Seats.length - 1) k 1 (by omega) (by omega) (by omega) (fun j hj => by
        obtain rfl : j = 0 := by omega
        rw [onB_zero, hf])
      have e : ref6_long_l0 k v U s k 1 = _ := e
      exact ⟨r, by rw [bindS e], h⟩
  · rw [condNF h1, bindS rfl, condT rfl]
    exact hzero (by unfold freeB; rw [decide_eq_false h1, Bool.false_and])
def rangeL (s : Int) (m : Nat) : List Int := (List.range m).map (fun j : Nat => s + (j : Int))
theorem rangeL_len (s : Int) (m : Nat) : (rangeL s m).length = m := by unfold rangeL; rw [List.length_map, List.length_range]
theorem rangeL_get {s : Int} {m i : Nat} (h : i < m) : (rangeL s m)[i]? = some (s + i) := by unfold rangeL; simp [h]
theorem run_piece_eq (k : Nat) (s : Int) (m : Nat) (hm : m < k) (hs : -4294967290 ≤ s ∧ s ≤ 4294967290) (hk : k ≤ 4294967290) : run_piece k s (m : Int) = some (rangeL s m) := by
  unfold run_piece
  have h := gather0 (f := fun n a i => run_piece_l0 k s (m : Int) n a i) (len := m) (c := 0) (fun _ => true) (fun j : Nat => s + (j : Int))
    (fun n i w hi hw => by
      show run_piece_l0 k s (m : Int) (n + 1) w (i : Int) = run_piece_l0 k s (m : Int) n _ _
      rw [run_piece_l0, condD (by omega), gdD (by simp only [List.length_singleton]; omega), wr_succ (by omega), wr_id (x := s + (i : Int)) (by omega) (by omega)]
      rfl)
    (fun n w => by show run_piece_l0 k s (m : Int) (n + 1) w _ = _; rw [run_piece_l0, condN (by omega)])
    hm [] (by simp)
  have h : run_piece_l0 k s (m : Int) k [] 0 = _ := h
  rw [bindS h, List.filter_eq_self.2 (fun _ _ => rfl)]
  rfl
/-- The length of the run at s. -/
noncomputable def runN (v : Venue) (U : List Bool) (s : Int) : Nat := (ref6_long 4294967290 v U s).getD 0 |>.toNat
theorem runN_pre {v : Venue} {U : List Bool} {s : Int} (hl : v.Seats.length < 4294967290) : Pre (onB v U s) v.Seats.length (runN v U s) := by
  obtain ⟨r, e, h⟩ := ref6_long_eq 4294967290 v U s hl (by omega)
  unfold runN
  rw [e]
  exact h
theorem ref6_long_N {k : Nat} {v : Venue} {U : List Bool} {s : Int} (hl : v.Seats.length < k) (hk : k ≤ 4294967290) : ref6_long k v U s = some (runN v U s : Int) := by
  obtain ⟨r, e, h⟩ := ref6_long_eq k v U s hl hk
  rw [e, h.uniq (runN_pre (by omega))]
theorem run_long_min {k : Nat} {v : Venue} {U : List Bool} {s : Int} (hs : okI s) (hl : v.Seats.length < k) (hk : k ≤ 4294967290) {m : Nat} (hm : m ≤ v.Seats.length) : run_long k v U s (m : Int) = some ((min m (runN v U s) : Nat) : Int) := by
  obtain ⟨r, e, h⟩ := run_long_eq k v U s hs m (by omega) (by omega) hk
  rw [e, h.cut (runN_pre (by omega)) hm]
theorem runN_pos {v : Venue} {U : List Bool} {s : Int} (hl : v.Seats.length < 4294967290) (h : 0 < runN v U s) : 0 ≤ s ∧ s + runN v U s ≤ v.Seats.length := by
  have hp := runN_pre (v := v) (U := U) (s := s) hl
  have h1 := hp.all (runN v U s - 1) (by omega)
  have h0 := hp.all 0 h
  rw [onB_zero] at h0
  have h0 := free_low h0
  unfold onB at h1
  rw [Bool.and_eq_true] at h1
  have h1 := free_low h1.1
  omega
/-- What Take answers. -/
noncomputable def takeV (v : Venue) (U : List Bool) (s m : Int) : List Int × Bool := if 1 ≤ m ∧ m ≤ runN v U s then (rangeL s m.toNat, true) else ([], false)
theorem run_Take_eq {k : Nat} {v : Venue} {U : List Bool} {s : Int} (m : Int) (hs : okI s) (hl : v.Seats.length < k) (hk : k ≤ 4294967290) : run_Take k v U s m = some (takeV v U s m) := by
  have hp := runN_pre (v := v) (U := U) (s := s) (by omega)
  have hle := hp.le
  unfold run_Take takeV
  by_cases h1 : m < 1
  · rw [condD h1, if_neg (by omega)]
  by_cases h2 : (v.Seats.length : Int) < m
  · rw [condN h1, condD h2, if_neg (by omega)]
  obtain ⟨q, rfl⟩ := Int.eq_ofNat_of_zero_le (by omega : 0 ≤ m)
  rw [condN h1, condN h2, bindS (run_long_min hs hl hk (by omega))]
  by_cases h3 : ((min q (runN v U s) : Nat) : Int) < (q : Int)
  · rw [condD h3, if_neg (by omega)]
  · have := runN_pos (v := v) (U := U) (s := s) (by omega) (by omega)
    rw [condN h3, bindS (run_piece_eq k s q (by omega) (by omega) hk), if_pos (by omega), Int.toNat_natCast]
end Go.Px
