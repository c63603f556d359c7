/- The law PlaceLong over the plain functions. -/
import Derived.Test.YtlfpkjlaajfjnaaPKillMore
import Derived.Test.YtlfpkjlaajfjnaaPPlaceTop
set_option linter.unusedVariables false
set_option linter.unusedSimpArgs false
namespace Go.Px
open Go Go.Sh
def rowS (m : Nat) : List Seat := (List.range m).map (fun j : Nat => Seat.mk 0 (10 * (j : Int)) 0 0)
theorem rowS_get {m i : Nat} (h : i < m) : (rowS m)[i]? = some (Seat.mk 0 (10 * (i : Int)) 0 0) := by unfold rowS; simp [h]
theorem rowS_len (m : Nat) : (rowS m).length = m := by unfold rowS; simp
theorem rowS_seat {m : Nat} {g r : Int} {K : List Int} {P : List Pole} {i : Nat} (h : i < m) : seatA (Venue.mk (rowS m) g r K P) (i : Int) = Seat.mk 0 (10 * (i : Int)) 0 0 := by
  unfold seatA
  rw [Int.toNat_natCast]
  exact getD_of (rowS_get h)
theorem deadB_row {m i : Nat} : deadB (Venue.mk (rowS m) 10 0 [] []) i = true := by
  rw [killL_nil]
  exact ⟨List.not_mem_nil, fun j hj => absurd hj (by simp)⟩
theorem MayV_row {m : Nat} (h1 : 1 ≤ m) (h2 : m ≤ 40) : MayV (Venue.mk (rowS m) 10 0 [] []) := by
  refine ⟨?_, by show 1 ≤ (rowS m).length; rw [rowS_len]; exact h1, by show (rowS m).length ≤ 4096; rw [rowS_len]; omega, by show InP 10 1 1048576; omega, by show InP 0 0 1048576; omega, ?_, by simp, ?_, by simp⟩
  · intro j hj s hs
    have hj : j < (rowS m).length := hj
    rw [rowS_len] at hj
    have hs : (rowS m)[j]? = some s := hs
    rw [rowS_get hj] at hs
    cases hs
    refine ⟨⟨by simp only; omega, by simp only; omega, by simp only; omega, by simp only; omega⟩, fun h0 r hr => ?_⟩
    have hr : (rowS m)[j - 1]? = some r := hr
    rw [rowS_get (by omega)] at hr
    cases hr
    exact .inr ⟨rfl, by simp only; omega⟩
  · intro j hj
    simp at hj
  · intro j hj
    simp at hj
theorem onB_row {m : Nat} (hm : m ≤ 40) {s i : Nat} (h : s + i < m) : onB (Venue.mk (rowS m) 10 0 [] []) (usL (Venue.mk (rowS m) 10 0 [] [])) (s : Int) i = true := by
  have hl : (Venue.mk (rowS m) 10 0 [] []).Seats.length = m := rowS_len m
  have hf : freeB (Venue.mk (rowS m) 10 0 [] []) (usL (Venue.mk (rowS m) 10 0 [] [])) ((s : Int) + i) = true := by
    unfold freeB
    rw [decide_eq_true (by rw [hl]; omega), Bool.true_and, show ((s : Int) + (i : Int)).toNat = s + i by omega, usL_get (by rw [hl]; omega), deadB_row]
    rfl
  unfold onB
  rw [hf, Bool.true_and]
  by_cases h0 : i = 0
  · rw [decide_eq_true h0]; rfl
  · rw [decide_eq_false h0, Bool.false_or]
    unfold nextB
    rw [show (s : Int) + (i : Int) - 1 + 1 = ((s + i : Nat) : Int) by omega, show (s : Int) + (i : Int) - 1 = ((s + i - 1 : Nat) : Int) by omega, rowS_seat (by omega), rowS_seat (by omega), decide_eq_true (by rw [hl]; omega), decide_eq_true rfl, Bool.true_and, Bool.true_and, decide_eq_true_iff]
    simp only
    rw [show (10 * ((s + i : Nat) : Int)) - 10 * ((s + i - 1 : Nat) : Int) = 10 by omega]
    decide
theorem runN_row {m : Nat} (hm : m ≤ 40) {s : Nat} (h : s < m) : runN (Venue.mk (rowS m) 10 0 [] []) (usL (Venue.mk (rowS m) 10 0 [] [])) (s : Int) = m - s := by
  have hl : (Venue.mk (rowS m) 10 0 [] []).Seats.length = m := rowS_len m
  have hp := runN_pre (v := Venue.mk (rowS m) 10 0 [] []) (U := usL (Venue.mk (rowS m) 10 0 [] [])) (s := (s : Int)) (by rw [hl]; omega)
  rw [hl] at hp
  refine hp.uniq ⟨by omega, fun j hj => onB_row hm (by omega), fun hj => ?_⟩
  unfold onB freeB
  rw [decide_eq_false (p := 0 ≤ _ ∧ _) (by rw [hl]; omega), Bool.false_and, Bool.false_and]
theorem kd_row {m : Nat} {s q : Nat} (h : s + q ≤ m) (j : Int) : kd (Venue.mk (rowS m) 10 0 [] []) (s : Int) q j = 0 := by
  unfold kd
  split
  · rename_i hj
    obtain ⟨i, rfl⟩ := Int.eq_ofNat_of_zero_le hj.1
    rw [show (s : Int) + (i : Int) = ((s + i : Nat) : Int) by omega, rowS_seat (by omega)]
  · rfl
theorem kF_row {m : Nat} {s q : Nat} (h : s + q ≤ m) : ∀ (d j : Nat) (w c : Int), kF (Venue.mk (rowS m) 10 0 [] []) (s : Int) q d j w c = .go (w, c)
  | 0, j, w, c => by rw [kF]
  | d + 1, j, w, c => by
    rw [kF, kd_row h, if_neg (by omega), if_neg (by omega)]
    exact kF_row h d (j + 1) w c
theorem placeB_row {m : Nat} (hm : m ≤ 40) (p : Party) (hp : MayP p) {s : Nat} (h : s < m) : placeB (Venue.mk (rowS m) 10 0 [] []) (usL (Venue.mk (rowS m) 10 0 [] [])) p (s : Int) = decide (p.Size ≤ ((m - s : Nat) : Int) ∧ p.Wheels = 0) := by
  unfold placeB
  rw [runN_row hm h]
  by_cases h1 : p.Size ≤ ((m - s : Nat) : Int)
  · rw [decide_eq_true ⟨hp, h1⟩, Bool.true_and]
    unfold kindsB
    rw [kF_row (by omega)]
    simp only
    rw [decide_eq_decide]
    omega
  · rw [decide_eq_false (fun h => h1 h.2), decide_eq_false (fun h => h1 h.1)]
    rfl
theorem filter_lt (q : Nat) : ∀ n : Nat, (List.range n).filter (fun s => decide (s < q)) = List.range (min q n)
  | 0 => by simp
  | n + 1 => by
    rw [List.range_succ, List.filter_append, filter_lt q n]
    by_cases h : n < q
    · rw [show List.filter (fun s => decide (s < q)) [n] = [n] by simp [h], show min q (n + 1) = n + 1 by omega, show min q n = n by omega, List.range_succ]
    · rw [show List.filter (fun s => decide (s < q)) [n] = [] by simp [h], List.append_nil, show min q (n + 1) = min q n by omega]
theorem allV_row {m : Nat} (h1 : 1 ≤ m) (h2 : m ≤ 40) (p : Party) (hp : MayP p) (hw : p.Wheels = 0) : allV (Venue.mk (rowS m) 10 0 [] []) p = (List.range (m + 1 - p.Size.toNat)).map (fun j : Nat => (j : Int)) := by
  unfold allV allL
  rw [mayB_iff.2 (MayV_row h1 h2), cond_true]
  congr 1
  have hl : (Venue.mk (rowS m) 10 0 [] []).Seats.length = m := rowS_len m
  rw [hl]
  have e : (List.range m).filter (fun s : Nat => placeB (Venue.mk (rowS m) 10 0 [] []) (usL (Venue.mk (rowS m) 10 0 [] [])) p (s : Int)) = (List.range m).filter (fun s => decide (s < m + 1 - p.Size.toNat)) := by
    apply List.filter_congr
    intro s hs
    rw [List.mem_range] at hs
    rw [placeB_row h2 p hp hs, decide_eq_decide]
    omega
  rw [e, filter_lt]
  congr 1
  omega
theorem allV_row2 {m : Nat} (h1 : 1 ≤ m) (h2 : m ≤ 40) : allV (Venue.mk (rowS m) 10 0 [] []) (Party.mk 2 1) = [] := by
  unfold allV allL
  rw [mayB_iff.2 (MayV_row h1 h2), cond_true, List.map_eq_nil_iff, List.filter_eq_nil_iff]
  intro s hs
  have hl : (Venue.mk (rowS m) 10 0 [] []).Seats.length = m := rowS_len m
  rw [hl, List.mem_range] at hs
  rw [placeB_row h2 _ (by decide) hs, decide_eq_true_iff]
  rintro ⟨_, h⟩
  cases h
theorem PlaceLong_true (a0 : Int) (h0 : okI a0) (a1 : Int) (h1 : okI a1) : ∃ k, law11_PlaceLong k a0 a1 = some true := by
  refine ⟨2000, ?_⟩
  unfold law11_PlaceLong
  obtain ⟨m0, m1⟩ := um a0 40 (by omega)
  obtain ⟨q0, q1⟩ := um a1 8 (by omega)
  have hwm : wr (1 + (wr ((IntKind.u64.wrap a0).tmod 40))) = 1 + (IntKind.u64.wrap a0).tmod 40 := by rw [wr_id (x := (IntKind.u64.wrap a0).tmod 40) (by omega) (by omega)]; exact wr_id (by omega) (by omega)
  have hwq : wr (1 + (wr ((IntKind.u64.wrap a1).tmod 8))) = 1 + (IntKind.u64.wrap a1).tmod 8 := by rw [wr_id (x := (IntKind.u64.wrap a1).tmod 8) (by omega) (by omega)]; exact wr_id (by omega) (by omega)
  obtain ⟨m, hm⟩ := Int.eq_ofNat_of_zero_le (by omega : 0 ≤ 1 + (IntKind.u64.wrap a0).tmod 40)
  obtain ⟨q, hq⟩ := Int.eq_ofNat_of_zero_le (by omega : 0 ≤ 1 + (IntKind.u64.wrap a1).tmod 8)
  have e0 := gather0 (f := fun n a i => law11_PlaceLong_l0 2000 a0 n a i) (len := m) (c := 0) (fun _ => true) (fun j : Nat => Seat.mk 0 (10 * (j : Int)) 0 0)
    (fun n i w hi hw => by
      show law11_PlaceLong_l0 2000 a0 (n + 1) w (i : Int) = law11_PlaceLong_l0 2000 a0 n _ _
      rw [law11_PlaceLong_l0, hwm, hm, condD (by omega), gdD (by simp only [List.length_singleton]; omega), wr_succ (by omega), wr_id (x := 10 * (i : Int)) (by omega) (by omega)]
      rfl)
    (fun n w => by show law11_PlaceLong_l0 2000 a0 (n + 1) w _ = _; rw [law11_PlaceLong_l0, hwm, hm, condN (by omega)])
    (k := 2000) (by omega) [] (by simp)
  have e0 : law11_PlaceLong_l0 2000 a0 2000 [] 0 = _ := e0
  rw [List.filter_eq_self.2 (fun _ _ => rfl)] at e0
  have e0 : law11_PlaceLong_l0 2000 a0 2000 [] 0 = some (rowS m) := e0
  have hS : Small 2000 (Venue.mk (rowS m) 10 0 [] []) := ⟨by show (rowS m).length < 2000; rw [rowS_len]; omega, by simp, by simp, by omega, by omega⟩
  have hP : MayP (Party.mk (q : Int) 0) := by show 1 ≤ (q : Int) ∧ (q : Int) ≤ 8 ∧ (0 : Int) ≤ 0 ∧ (0 : Int) ≤ 2 ∧ 2 * (0 : Int) ≤ q; omega
  have eA := allV_row (m := m) (by omega) (by omega) (Party.mk (q : Int) 0) hP rfl
  have eA : allV (Venue.mk (rowS m) 10 0 [] []) (Party.mk (q : Int) 0) = (List.range (m + 1 - q)).map (fun j : Nat => (j : Int)) := eA
  rw [bindS e0, hwq, hq, hwm, hm, bindS (place_All_eq hS (by omega) _), eA]
  have hl1 : ((List.range (m + 1 - q)).map (fun j : Nat => (j : Int))).length = m + 1 - q := by simp
  have h := scan_go (f := fun n i => law11_PlaceLong_l1 2000 ((List.range (m + 1 - q)).map (fun j : Nat => (j : Int))) n i) (len := m + 1 - q) (good := fun _ => True)
    (fun n i hi _ => by
      show law11_PlaceLong_l1 2000 _ (n + 1) (i : Int) = _
      rw [law11_PlaceLong_l1, condD (by rw [hl1]; omega), bindS (idx_get (y := (i : Int)) (by omega) (by rw [Int.toNat_natCast]; simp [hi])), condNT rfl, wr_succ (by omega)])
    (fun n => by show law11_PlaceLong_l1 2000 _ (n + 1) _ = _; rw [law11_PlaceLong_l1, condN (by rw [hl1]; omega)]) (m + 1 - q) 2000 0 (by omega) (by omega) (fun _ _ _ => trivial)
  have h : law11_PlaceLong_l1 2000 _ 2000 0 = _ := h
  rw [bindS h, elim_go, bindS law11_told_eq, cond_true, hl1, wr_id (x := (m : Int) - (q : Int)) (by omega) (by omega), wr_id (x := (m : Int) - (q : Int) + 1) (by omega) (by omega), condD (by split <;> omega), bindS (place_All_eq hS (by omega) _), allV_row2 (by omega) (by omega), condD (by rfl), bindS (law3_Few_eq _ _)]
  congr 1
  rw [decide_eq_true_iff]
  refine ⟨by show (rowS m).length ≤ 40; rw [rowS_len]; omega, by simp, by simp⟩
end Go.Px
