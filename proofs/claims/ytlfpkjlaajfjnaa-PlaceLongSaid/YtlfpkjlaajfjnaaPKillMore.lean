/- The law KillMore over the plain functions. -/
import Derived.Test.YtlfpkjlaajfjnaaPKillAsks
set_option linter.unusedVariables false
set_option linter.unusedSimpArgs false
namespace Go.Px
open Go Go.Sh
theorem made_small {m : Nat} {v : Venue} (h : MadeV m v) (hm : m ≤ 100) : Small 2000 v := ⟨by have := h.n1; omega, by have := h.kl; omega, by have := h.pl; omega, by omega, by omega⟩
theorem may_poles {v : Venue} (h : MayV v) {P : List Pole} (hP : PolesP P) (hl : P.length ≤ 200) : MayV (Venue.mk v.Seats v.Gap v.Radius v.Kills P) :=
  ⟨h.seats, h.n0, h.n1, h.gap, h.radius, h.kills, h.k1, hP, hl⟩
theorem far_self {a b : Seat} (hx : a.X = b.X) (hy : a.Y = b.Y) : far a b = 0 := by
  unfold far
  rw [hx, hy]
  simp
theorem killL_nil {v : Venue} {s : Nat} : deadB v s = true ↔ (s : Int) ∉ v.Kills ∧ ∀ j, j < v.Poles.length → poleB v s j = false := by
  unfold deadB killL
  rw [decide_eq_true_iff, List.length_eq_zero_iff, List.append_eq_nil_iff, List.map_eq_nil_iff, List.filter_eq_nil_iff]
  constructor
  · rintro ⟨a, b⟩
    refine ⟨fun h => ?_, fun j hj => ?_⟩
    · rw [if_pos h] at a
      cases a
    · simpa using b j (List.mem_range.2 hj)
  · rintro ⟨a, b⟩
    refine ⟨by rw [if_neg a], fun j hj => ?_⟩
    simpa using b j (List.mem_range.1 hj)
theorem poleB_ext {v : Venue} {P : List Pole} {p : Pole} {s j : Nat} (h : j < P.length) (g r : Int) (K : List Int) (h1 : v.Poles = P) :
    poleB (Venue.mk v.Seats g r K (P ++ [p])) s j = poleB v s j := by
  unfold poleB
  simp only [h1]
  rw [List.getD_eq_getElem?_getD, List.getD_eq_getElem?_getD, List.getD_eq_getElem?_getD (l := P), List.getElem?_append_left h]
theorem KillMore_true (a0 : List Int) (h0 : okLI a0) (a1 : Int) (h1 : okI a1) (a2 : Int) (h2 : okI a2) : ∃ k, law8_KillMore k a0 a1 a2 = some true := by
  refine ⟨2000, ?_⟩
  unfold law8_KillMore
  obtain ⟨v, e, hv⟩ := law3_Make_eq 2000 a0 30 (by omega) (by omega) (by omega)
  rw [bindS (show law3_Make 2000 a0 30 = some v from e)]
  have hn0 := hv.may.n0
  have hn1 := hv.n1
  have hpl := hv.pl
  have hw : IntKind.u64.wrap (v.Seats.length : Int) = (v.Seats.length : Int) := wu_id (by omega) (by omega)
  rw [hw, gdD (by omega)]
  obtain ⟨j0, j1⟩ := um a1 (v.Seats.length : Int) (by omega)
  generalize hj : (IntKind.u64.wrap a1).tmod (v.Seats.length : Int) = j at *
  obtain ⟨j, rfl⟩ := Int.eq_ofNat_of_zero_le j0
  have hjl : j < v.Seats.length := by omega
  rw [wr_id (x := (j : Int)) (by omega) (by omega), gdD (by simp; omega)]
  obtain ⟨t, t1, t2⟩ := some_get hjl
  obtain ⟨q0, q1⟩ := um a2 30 (by omega)
  rw [bindS t2, bindS t2, gdD (by simp; omega), List.nil_append, wr_id (x := (IntKind.u64.wrap a2).tmod 30) (by omega) (by omega), wr_id (x := 1 + (IntKind.u64.wrap a2).tmod 30) (by omega) (by omega)]
  generalize hq : 1 + (IntKind.u64.wrap a2).tmod 30 = q at *
  have hS := (hv.may.seats j hjl t t1).1
  have hM2 : MayV (Venue.mk v.Seats v.Gap v.Radius v.Kills (v.Poles ++ [Pole.mk t.X t.Y q])) :=
    may_poles hv.may (hv.may.poles.snoc ⟨hS.2.1, hS.2.2.1, by show InP q 1 1048576; omega⟩) (by simp; omega)
  have hs2 : Small 2000 (Venue.mk v.Seats v.Gap v.Radius v.Kills (v.Poles ++ [Pole.mk t.X t.Y q])) := by
    have := hv.kl
    exact ⟨by show v.Seats.length < 2000; omega, by show v.Kills.length < 2000; omega, by show (v.Poles ++ [_]).length < 2000; simp; omega, by omega, by omega⟩
  have hl2 : (usL (Venue.mk v.Seats v.Gap v.Radius v.Kills (v.Poles ++ [Pole.mk t.X t.Y q]))).length = v.Seats.length := usL_len _
  have hl1 := usL_len v
  rw [bindS (kill_Usable_eq (made_small hv (by omega))), bindS (kill_Usable_eq hs2), mayB_iff.2 hv.may, mayB_iff.2 hM2, cond_true, cond_true, hl1, hl2, condNT rfl, decide_eq_true rfl, bindS rfl, cNT]
  have hsub : ∀ i, i < v.Seats.length → deadB (Venue.mk v.Seats v.Gap v.Radius v.Kills (v.Poles ++ [Pole.mk t.X t.Y q])) i = true → deadB v i = true := fun i hi h => by
    rw [killL_nil] at h ⊢
    refine ⟨h.1, fun z hz => ?_⟩
    have := h.2 z (by show z < (v.Poles ++ [_]).length; simp; omega)
    rw [poleB_ext hz _ _ _ rfl] at this
    exact this
  have h := scan_go (f := fun n i => law8_KillMore_l0 2000 (usL v) (usL (Venue.mk v.Seats v.Gap v.Radius v.Kills (v.Poles ++ [Pole.mk t.X t.Y q]))) n i) (len := v.Seats.length) (good := fun _ => True)
    (fun n i hi _ => by
      show law8_KillMore_l0 2000 (usL v) _ (n + 1) (i : Int) = _
      rw [law8_KillMore_l0, condD (by rw [hl1]; omega), bindS (usL_idx (v := Venue.mk v.Seats v.Gap v.Radius v.Kills (v.Poles ++ [Pole.mk t.X t.Y q])) hi), wr_succ (by omega)]
      cases hd : deadB (Venue.mk v.Seats v.Gap v.Radius v.Kills (v.Poles ++ [Pole.mk t.X t.Y q])) i
      · rw [condF rfl]
      · rw [condT rfl, bindS (usL_idx hi), hsub i hi hd, cNT])
    (fun n => by show law8_KillMore_l0 2000 (usL v) _ (n + 1) _ = _; rw [law8_KillMore_l0, condN (by rw [hl1]; omega)]) v.Seats.length 2000 0 (by omega) (by omega) (fun _ _ _ => trivial)
  have h : law8_KillMore_l0 2000 (usL v) _ 2000 0 = _ := h
  rw [bindS h, elim_go, bindS law8_told_eq, condT rfl, bindS (usL_idx (v := Venue.mk v.Seats v.Gap v.Radius v.Kills (v.Poles ++ [Pole.mk t.X t.Y q])) hjl)]
  have hd : deadB (Venue.mk v.Seats v.Gap v.Radius v.Kills (v.Poles ++ [Pole.mk t.X t.Y q])) j = false := by
    cases hd : deadB (Venue.mk v.Seats v.Gap v.Radius v.Kills (v.Poles ++ [Pole.mk t.X t.Y q])) j
    · rfl
    · have := (killL_nil.1 hd).2 v.Poles.length (by show _ < (v.Poles ++ [_]).length; simp)
      unfold poleB closeB at this
      simp only at this
      have e1 : (v.Poles ++ [Pole.mk t.X t.Y q]).getD v.Poles.length default = Pole.mk t.X t.Y q := by
        rw [List.getD_eq_getElem?_getD, List.getElem?_append_right (by omega)]
        simp
      have e2 : far t (poleS (Pole.mk t.X t.Y q)) = 0 := far_self rfl rfl
      rw [e1, getD_of t1, e2] at this
      have this : decide ((0 : Int) < wr (q * q)) = false := this
      have h3 := sq_le (d := q) (by omega)
      have h4 : 1 * 1 ≤ q * q := Int.mul_le_mul (by omega) (by omega) (by omega) (by omega)
      rw [wr_id (x := q * q) (by omega) (by omega)] at this
      rw [decide_eq_false_iff_not] at this
      omega
  rw [hd]
  rfl
end Go.Px
