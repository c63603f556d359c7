/- The law KillAsks over the plain functions. -/
import Derived.Test.YtlfpkjlaajfjnaaPKill
set_option linter.unusedVariables false
set_option linter.unusedSimpArgs false
namespace Go.Px
open Go Go.Sh
theorem law8_told_eq : law8_told 2000 = some true := by decide +kernel
theorem law3_Few_eq (k : Nat) (v : Venue) : law3_Few k v = some (decide (v.Seats.length ≤ 40 ∧ v.Kills.length ≤ 40 ∧ v.Poles.length ≤ 40)) := by
  unfold law3_Few
  rw [condAnd (condAnd rfl)]
  congr 1
  rw [decide_eq_decide]
  omega
theorem small_few {v : Venue} (h : v.Seats.length ≤ 40 ∧ v.Kills.length ≤ 40 ∧ v.Poles.length ≤ 40) : Small 2000 v := ⟨by omega, by omega, by omega, by omega, by omega⟩
theorem KillAsks_true (a0 : Venue) (h0 : okVenue a0) (a1 : Int) (h1 : okI a1) : ∃ k, law8_KillAsks k a0 a1 = some true := by
  refine ⟨2000, ?_⟩
  unfold law8_KillAsks
  rw [bindS (law3_Few_eq _ _)]
  by_cases hf : a0.Seats.length ≤ 40 ∧ a0.Kills.length ≤ 40 ∧ a0.Poles.length ≤ 40
  · rw [condNT hf]
    have hv := small_few hf
    rw [bindS (ref6_Usable_eq hv)]
    have hU : (cond (mayB a0) (usL a0) []).length ≤ 40 := by
      cases mayB a0
      · simp
      · simp only [cond_true]; rw [usL_len]; omega
    have hU2 := kill_Usable_eq hv
    have hK2 := kill_Killed_eq hv
    generalize (cond (mayB a0) (usL a0) []) = U at *
    have hB : ∀ s, ∃ l : List Int, kill_By 2000 a0 s = some l ∧ ref6_By 2000 a0 s = some l ∧ l.length ≤ 41 := fun s => by
      refine ⟨_, kill_By_eq hv s, ref6_By_eq hv s, ?_⟩
      have := killL_len a0 s.toNat
      cases decide (0 ≤ s ∧ s < a0.Seats.length)
      · simp
      cases mayB a0
      · simp
      · simp only [cond_true]; omega
    have h := gather0 (f := fun n a i => law8_KillAsks_l0 2000 U n a i) (len := U.length) (c := 0) (fun i => !(U.getD i true)) (fun j : Nat => (j : Int))
      (fun n i w hi hw => by
        show law8_KillAsks_l0 2000 U (n + 1) w (i : Int) = law8_KillAsks_l0 2000 U n _ _
        obtain ⟨y, e1, e2⟩ := some_get hi
        rw [law8_KillAsks_l0, condD (by omega), bindS e2, getD_of e1, wr_succ (by omega)]
        cases y
        · rw [cNF, gdD (by simp only [List.length_singleton]; omega)]; rfl
        · rw [cNT]; rfl)
      (fun n w => by show law8_KillAsks_l0 2000 U (n + 1) w _ = _; rw [law8_KillAsks_l0, condN (by omega)])
      (k := 2000) (by omega) [] (by simp)
    have h : law8_KillAsks_l0 2000 U 2000 [] 0 = some (deadL U) := h
    have hd := deadL_len U
    rw [bindS h, bindS law8_told_eq, condT rfl, bindS hU2, bindS (law8_bools_refl _ _ (by omega) (by omega)), condT rfl, bindS hK2, bindS (sameInts_refl _ _ (by omega) (by omega)), condT rfl]
    obtain ⟨l1, e1, e2, e3⟩ := hB a1
    rw [bindS e1, bindS e2, bindS (sameInts_refl _ _ (by omega) (by omega)), condT rfl]
    by_cases hz : (a0.Seats.length : Int) = 0
    · rw [condD hz]
    · rw [condN hz]
      have hw : IntKind.u64.wrap (a0.Seats.length : Int) = (a0.Seats.length : Int) := wu_id (by omega) (by omega)
      rw [hw, gdD hz]
      obtain ⟨l2, f1, f2, f3⟩ := hB (wr ((IntKind.u64.wrap a1).tmod (a0.Seats.length : Int)))
      rw [bindS f1, gdD hz, bindS f2, bindS (sameInts_refl _ _ (by omega) (by omega))]
  · rw [condNF hf, bindS law8_told_eq]
end Go.Px
