/- The laws RunOf and RunGap over the plain functions. -/
import Derived.Test.YtlfpkjlaajfjnaaPKillMore
import Derived.Test.YtlfpkjlaajfjnaaPRuns
set_option linter.unusedVariables false
set_option linter.unusedSimpArgs false
namespace Go.Px
open Go Go.Sh
theorem RunOf_true (a0 : List Int) (h0 : okLI a0) (a1 : List Bool) (h1 : okLB a1) (a2 : Int) (h2 : okI a2) (a3 : Int) (h3 : okI a3) : ∃ k, law7_RunOf k a0 a1 a2 a3 = some true := by
  refine ⟨2000, ?_⟩
  unfold law7_RunOf
  obtain ⟨v, e, hv⟩ := law3_Make_eq 2000 a0 30 (by omega) (by omega) (by omega)
  rw [bindS (show law3_Make 2000 a0 30 = some v from e)]
  have hn0 := hv.may.n0
  have hn1 := hv.n1
  have hS := made_small hv (by omega)
  have hw : IntKind.u64.wrap (v.Seats.length : Int) = (v.Seats.length : Int) := wu_id (by omega) (by omega)
  rw [hw, gdD (by omega)]
  obtain ⟨j0, j1⟩ := um a2 (v.Seats.length : Int) (by omega)
  obtain ⟨m0, m1⟩ := um a3 10 (by omega)
  have hw2 : wr ((IntKind.u64.wrap a2).tmod (v.Seats.length : Int)) = (IntKind.u64.wrap a2).tmod (v.Seats.length : Int) := wr_id (by omega) (by omega)
  rw [hw2, wr_id (x := (IntKind.u64.wrap a3).tmod 10) (by omega) (by omega)]
  generalize hj : (IntKind.u64.wrap a2).tmod (v.Seats.length : Int) = j at *
  generalize (IntKind.u64.wrap a3).tmod 10 = m at *
  have hle := (runN_pre (v := v) (U := a1) (s := j) (by omega)).le
  rw [bindS (run_Of_eq hS m ⟨by omega, by omega⟩), bindS (run_Long_eq hS ⟨by omega, by omega⟩), mayB_iff.2 hv.may, cond_true, cond_true]
  have hl0 : ∀ t : List Int × Bool, (∀ (i : Nat) x, t.1[i]? = some x → x = j + (i : Int)) → t.1.length ≤ 100 → law7_RunOf_l0 2000 a2 v t 2000 0 = some (.go ()) := fun t ht hl => by
    have h := scan_go (f := fun n i => law7_RunOf_l0 2000 a2 v t n i) (len := t.1.length) (good := fun _ => True)
      (fun n i hi _ => by
        show law7_RunOf_l0 2000 a2 v t (n + 1) (i : Int) = _
        obtain ⟨y, e1, e2⟩ := some_get hi
        have := ht i y e1
        rw [law7_RunOf_l0, condD (by omega), bindS e2, hw, hj, hw2, wr_id (x := j + (i : Int)) (by omega) (by omega), condNT this, wr_succ (by omega)])
      (fun n => by show law7_RunOf_l0 2000 a2 v t (n + 1) _ = _; rw [law7_RunOf_l0, condN (by omega)]) t.1.length 2000 0 (by omega) (by omega) (fun _ _ _ => trivial)
    exact h
  have ht : (1 ≤ m ∧ m ≤ runN v a1 j ∧ takeV v a1 j m = (rangeL j m.toNat, true)) ∨ (¬ (1 ≤ m ∧ m ≤ runN v a1 j) ∧ takeV v a1 j m = ([], false)) := by
    unfold takeV
    by_cases h : 1 ≤ m ∧ m ≤ runN v a1 j
    · rw [if_pos h]; exact .inl ⟨h.1, h.2, rfl⟩
    · rw [if_neg h]; exact .inr ⟨h, rfl⟩
  rcases ht with ⟨p1, p2, ht⟩ | ⟨p1, ht⟩
  · rw [ht, condD p1, decide_eq_true p2]
    have e1 := hl0 (rangeL j m.toNat, true) (fun i x hx => by
      have hlt := (List.getElem?_eq_some_iff.1 hx).1
      have hx : (rangeL j m.toNat)[i]? = some x := hx
      have hlt : i < (rangeL j m.toNat).length := hlt
      rw [rangeL_len] at hlt
      rw [rangeL_get hlt] at hx
      exact (Option.some.inj hx).symm) (by show (rangeL j m.toNat).length ≤ 100; rw [rangeL_len]; omega)
    have e2 : decide (((rangeL j m.toNat, true).1.length : Int) = m) = true := by
      show decide (((rangeL j m.toNat).length : Int) = m) = true
      rw [rangeL_len, decide_eq_true_iff]; omega
    show (Option.bind (some false) _) = _
    rw [bindS rfl, condF rfl, bindS e1, elim_go, bindS law7_told_eq, condT rfl, e2]
    rfl
  · rw [ht]
    have e1 := hl0 ([], false) (fun i x hx => by simp at hx) (by simp)
    have e3 : (cond (decide (1 ≤ m)) (cond (!((([] : List Int), false).2 == (decide (m ≤ (runN v a1 j : Int))))) (some true) (cond (!(([] : List Int), false).2) (some (!decide (((([] : List Int), false).1.length : Int) = 0))) (some false))) (cond (!((([] : List Int), false).2 == false)) (some true) (cond (!(([] : List Int), false).2) (some (!decide (((([] : List Int), false).1.length : Int) = 0))) (some false)))) = some false := by
      by_cases hm : 1 ≤ m
      · rw [condD hm, decide_eq_false (fun h => p1 ⟨hm, h⟩)]
        rfl
      · rw [condN hm]
        rfl
    rw [bindS e3, condF rfl, bindS e1, elim_go, bindS law7_told_eq, condT rfl]
    rfl
/- RunGap -/
def startB (v : Venue) (U : List Bool) (i : Nat) : Bool := freeB v U (i : Int) && !(decide (0 < i) && (freeB v U ((i : Int) - 1) && nextB v ((i : Int) - 1)))
theorem onB_free {v : Venue} {U : List Bool} {s : Int} {i : Nat} (h : onB v U s i = true) : freeB v U (s + i) = true := by
  unfold onB at h
  rw [Bool.and_eq_true] at h
  exact h.1
theorem onB_next {v : Venue} {U : List Bool} {s : Int} {i : Nat} (h : onB v U s i = true) (h0 : 0 < i) : nextB v (s + i - 1) = true := by
  unfold onB at h
  rw [Bool.and_eq_true, decide_eq_false (by omega), Bool.false_or] at h
  exact h.2
theorem free_out {v : Venue} {U : List Bool} {s : Int} (h : (v.Seats.length : Int) ≤ s) : freeB v U s = false := by
  unfold freeB
  rw [decide_eq_false (by omega), Bool.false_and]
theorem filter_nil_of {α : Type} {p : α → Bool} {l : List α} (h : ∀ x, x ∈ l → p x = false) : l.filter p = [] := by
  rw [List.filter_eq_nil_iff]
  intro x hx
  rw [h x hx]
  simp
theorem pcsF_count {v : Venue} {U : List Bool} (hN : v.Seats.length < 4294967290) : ∀ (d i : Nat), v.Seats.length ≤ i + d → (freeB v U (i : Int) = true → startB v U i = true) → (pcsF v U d i).length = ((List.range' i (v.Seats.length - i)).filter (startB v U)).length
  | 0, i, hd, _ => by
    rw [pcsF, show v.Seats.length - i = 0 by omega]
    simp
  | d + 1, i, hd, hs => by
    rw [pcsF]
    by_cases hl : i < v.Seats.length
    · rw [if_pos hl]
      have hp := runN_pre (v := v) (U := U) (s := (i : Int)) hN
      by_cases h0 : 0 < runN v U (i : Int)
      · rw [if_pos h0]
        have hpos := runN_pos hN h0
        generalize hr : runN v U (i : Int) = r at *
        have hf : freeB v U (i : Int) = true := by have := hp.all 0 h0; rw [onB_zero] at this; exact this
        have hcont : freeB v U ((i + r : Nat) : Int) = true → startB v U (i + r) = true := fun hff => by
          have hfl := free_low hff
          have hst := hp.stop (by omega)
          unfold onB at hst
          rw [show ((i : Int) + (r : Int)) = ((i + r : Nat) : Int) by omega, hff, Bool.true_and, decide_eq_false (by omega), Bool.false_or] at hst
          unfold startB
          rw [hff, hst, Bool.and_false, Bool.and_false]
          rfl
        rw [List.length_cons, pcsF_count hN d (i + r) (by omega) hcont]
        have hsplit : List.range' i (v.Seats.length - i) = List.range' i r ++ List.range' (i + r) (v.Seats.length - (i + r)) := by
          rw [List.range'_append_1]
          congr 1
          omega
        have hfirst : (List.range' i r).filter (startB v U) = [i] := by
          obtain ⟨q, rfl⟩ : ∃ q, r = q + 1 := ⟨r - 1, by omega⟩
          rw [List.range'_succ, List.filter_cons, if_pos (hs hf), filter_nil_of]
          intro x hx
          rw [List.mem_range'_1] at hx
          have a1 := hp.all (x - i) (by omega)
          have a2 := hp.all (x - i - 1) (by omega)
          have b1 := onB_next a1 (by omega)
          have b2 := onB_free a2
          rw [show (i : Int) + ((x - i : Nat) : Int) - 1 = (x : Int) - 1 by omega] at b1
          rw [show (i : Int) + ((x - i - 1 : Nat) : Int) = (x : Int) - 1 by omega] at b2
          unfold startB
          rw [b1, b2, decide_eq_true (by omega)]
          simp
        rw [hsplit, List.filter_append, hfirst]
        simp
      · rw [if_neg h0]
        have hf : freeB v U (i : Int) = false := by
          have := hp.stop (by omega)
          rw [show runN v U (i : Int) = 0 by omega, onB_zero] at this
          exact this
        have hcont : freeB v U ((i + 1 : Nat) : Int) = true → startB v U (i + 1) = true := fun hff => by
          unfold startB
          rw [hff, show ((i + 1 : Nat) : Int) - 1 = (i : Int) by omega, hf]
          simp
        rw [pcsF_count hN d (i + 1) (by omega) hcont]
        obtain ⟨q, hq⟩ : ∃ q, v.Seats.length - i = q + 1 := ⟨v.Seats.length - i - 1, by omega⟩
        have hns : startB v U i = false := by unfold startB; rw [hf, Bool.false_and]
        rw [hq, List.range'_succ, List.filter_cons, hns, show v.Seats.length - (i + 1) = q by omega]
        rfl
    · rw [if_neg hl, show v.Seats.length - i = 0 by omega]
      simp
theorem pcs_count {v : Venue} {U : List Bool} (hN : v.Seats.length < 4294967290) : (pcs v U).length = ((List.range' 0 v.Seats.length).filter (startB v U)).length := by
  unfold pcs
  exact pcsF_count hN v.Seats.length 0 (by omega) (fun h => by unfold startB; rw [h]; rfl)
theorem runN_mono {v v' : Venue} {U : List Bool} {s : Int} (hN : v.Seats.length < 4294967290) (hl : v'.Seats.length = v.Seats.length) (hp : ∀ i, onB v U s i = true → onB v' U s i = true) : runN v U s ≤ runN v' U s := by
  have h := runN_pre (v := v) (U := U) (s := s) hN
  have h' := runN_pre (v := v') (U := U) (s := s) (by omega)
  have hle := h.le
  rcases Nat.lt_or_ge (runN v' U s) (runN v U s) with hlt | hge
  · have a := hp _ (h.all _ hlt)
    have b := h'.stop (by omega)
    rw [a] at b
    cases b
  · exact hge
theorem filter_le {α : Type} {p q : α → Bool} (h : ∀ x, p x = true → q x = true) : ∀ l : List α, (l.filter p).length ≤ (l.filter q).length
  | [] => by simp
  | a :: l => by
    have ih := filter_le h l
    rw [List.filter_cons, List.filter_cons]
    by_cases hp : p a = true
    · rw [if_pos hp, if_pos (h a hp)]
      simp only [List.length_cons]
      omega
    · rw [if_neg hp]
      split
      · simp only [List.length_cons]; omega
      · exact ih
theorem RunGap_true (a0 : List Int) (h0 : okLI a0) (a1 : List Bool) (h1 : okLB a1) (a2 : Int) (h2 : okI a2) : ∃ k, law7_RunGap k a0 a1 a2 = some true := by
  refine ⟨2000, ?_⟩
  unfold law7_RunGap
  obtain ⟨v, e, hv⟩ := law3_Make_eq 2000 a0 30 (by omega) (by omega) (by omega)
  rw [bindS (show law3_Make 2000 a0 30 = some v from e)]
  have hn0 := hv.may.n0
  have hn1 := hv.n1
  have hS := made_small hv (by omega)
  obtain ⟨g0, g1⟩ := um a2 20 (by omega)
  have hg := hv.gap
  have hw : wr (v.Gap + (wr ((IntKind.u64.wrap a2).tmod 20))) = v.Gap + (IntKind.u64.wrap a2).tmod 20 := by rw [wr_id (x := (IntKind.u64.wrap a2).tmod 20) (by omega) (by omega)]; exact wr_id (by omega) (by omega)
  obtain ⟨G, hG⟩ : ∃ G, G = v.Gap + (IntKind.u64.wrap a2).tmod 20 := ⟨_, rfl⟩
  have hM2 : MayV (Venue.mk v.Seats G v.Radius v.Kills v.Poles) := ⟨hv.may.seats, hv.may.n0, hv.may.n1, by show InP G 1 1048576; omega, hv.may.radius, hv.may.kills, hv.may.k1, hv.may.poles, hv.may.p1⟩
  have hS2 : Small 2000 (Venue.mk v.Seats G v.Radius v.Kills v.Poles) := ⟨hS.hs, hS.hk, hS.hp, hS.b, hS.b3⟩
  have hnext : ∀ s, nextB v s = true → nextB (Venue.mk v.Seats G v.Radius v.Kills v.Poles) s = true := fun s h => by
    unfold nextB at h ⊢
    rw [Bool.and_eq_true, Bool.and_eq_true, decide_eq_true_iff, decide_eq_true_iff, decide_eq_true_iff] at h ⊢
    refine ⟨h.1, h.2.1, ?_⟩
    show wr ((seatA v (s + 1)).X - (seatA v s).X) ≤ G
    omega
  have hon : ∀ s i, onB v a1 s i = true → onB (Venue.mk v.Seats G v.Radius v.Kills v.Poles) a1 s i = true := fun s i h => by
    unfold onB at h ⊢
    rw [Bool.and_eq_true, Bool.or_eq_true] at h ⊢
    exact ⟨h.1, h.2.imp id (hnext _)⟩
  have h := scan_go (f := fun n i => law7_RunGap_l0 2000 a1 a2 v n i) (len := v.Seats.length) (good := fun _ => True)
    (fun n i hi _ => by
      have hmono := runN_mono (v := v) (v' := Venue.mk v.Seats G v.Radius v.Kills v.Poles) (U := a1) (s := (i : Int)) (by omega) rfl (hon _)
      show law7_RunGap_l0 2000 a1 a2 v (n + 1) (i : Int) = _
      rw [law7_RunGap_l0, condD (by omega), bindS (run_Next_eq hS), mayB_iff.2 hv.may, cond_true, hw, ← hG, bindS (run_Next_eq hS2), mayB_iff.2 hM2, cond_true, bindS (run_Long_eq hS ⟨by omega, by omega⟩), bindS (run_Long_eq hS2 ⟨by omega, by omega⟩), mayB_iff.2 hv.may, mayB_iff.2 hM2, cond_true, cond_true, condN (by omega), wr_succ (by omega)]
      cases hn : nextB v (i : Int)
      · rw [cond_false]
      · rw [cond_true, hnext _ hn, cNT])
    (fun n => by show law7_RunGap_l0 2000 a1 a2 v (n + 1) _ = _; rw [law7_RunGap_l0, condN (by omega)]) v.Seats.length 2000 0 (by omega) (by omega) (fun _ _ _ => trivial)
  have h : law7_RunGap_l0 2000 a1 a2 v 2000 0 = _ := h
  rw [bindS h, elim_go, bindS law7_told_eq, condT rfl, hw, ← hG, bindS (run_Runs_eq hS2), bindS (run_Runs_eq hS), mayB_iff.2 hv.may, mayB_iff.2 hM2, cond_true, cond_true, List.length_map, List.length_map, pcs_count (v := Venue.mk v.Seats G v.Radius v.Kills v.Poles) (by show v.Seats.length < _; omega), pcs_count (by omega)]
  have hle := filter_le (p := startB (Venue.mk v.Seats G v.Radius v.Kills v.Poles) a1) (q := startB v a1) (fun x hx => by
    unfold startB at hx ⊢
    rw [Bool.and_eq_true] at hx ⊢
    refine ⟨hx.1, ?_⟩
    have h2 := hx.2
    cases hn : nextB v ((x : Int) - 1)
    · simp
    · rw [hnext _ hn] at h2
      exact h2) (List.range' 0 v.Seats.length)
  rw [decide_eq_true]
  show ((List.filter _ (List.range' 0 v.Seats.length)).length : Int) ≤ _
  omega
end Go.Px
