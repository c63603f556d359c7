/- The law KillNear over the plain functions. -/
import Derived.Test.YtlfpkjlaajfjnaaPKillMore
set_option linter.unusedVariables false
set_option linter.unusedSimpArgs false
namespace Go.Px
open Go Go.Sh
/-- Seats within reach of a place. -/
def nearL (v : Venue) (x y r : Int) : List Int := ((List.range v.Seats.length).filter (fun s => closeB (v.Seats.getD s default) (Seat.mk 0 x y 0) r)).map (fun j : Nat => (j : Int))
theorem geom_Near_l0_eq {k : Nat} {v : Venue} (hv : Small k v) (x y r : Int) : geom_Near_l0 k v x y r k [] 0 = some (nearL v x y r) := by
  have hb := hv.b
  have hs := hv.hs
  have h := gather0 (f := fun n a i => geom_Near_l0 k v x y r n a i) (len := v.Seats.length) (c := 0) (fun s => closeB (v.Seats.getD s default) (Seat.mk 0 x y 0) r) (fun j : Nat => (j : Int))
    (fun n i w hi hw => by
      obtain ⟨t, e1, e2⟩ := some_get hi
      show geom_Near_l0 k v x y r (n + 1) w (i : Int) = geom_Near_l0 k v x y r n _ _
      rw [geom_Near_l0, condD (by omega), bindS e2, bindS (geom_Close_eq _ _ _ _ hv.b3), wr_succ (by omega), getD_of e1]
      cases closeB t (Seat.mk 0 x y 0) r
      · rw [condF rfl]; rfl
      · rw [condT rfl, gdD (by simp only [List.length_singleton]; omega)]; rfl)
    (fun n w => by show geom_Near_l0 k v x y r (n + 1) w _ = _; rw [geom_Near_l0, condN (by omega)])
    hs [] (by simp)
  exact h
theorem geom_Near_eq {k : Nat} {v : Venue} (hv : Small k v) (hM : MayV v) {x y r : Int} (hx : CoordP x) (hy : CoordP y) (hr : InP r 1 1048576) : geom_Near k v x y r = some (nearL v x y r) := by
  have hb := hv.b
  unfold geom_Near
  rw [bindS (venue_May_eq k v hv.hs hv.hk hv.hp (by omega)), mayB_iff.2 hM, cNT, bindS (venue_Coord_eq _ _), condNT hx, bindS (venue_Coord_eq _ _), condNT hy, bindS (venue_Reach_eq _ _), decide_eq_true hr, bindS rfl, cNT, bindS (geom_Near_l0_eq hv x y r)]
theorem nearL_mem {v : Venue} {x y r : Int} {s : Nat} : (s : Int) ∈ nearL v x y r ↔ s < v.Seats.length ∧ closeB (v.Seats.getD s default) (Seat.mk 0 x y 0) r = true := by
  unfold nearL
  rw [List.mem_map]
  constructor
  · rintro ⟨j, h, e⟩
    rw [List.mem_filter, List.mem_range] at h
    obtain rfl : j = s := by omega
    exact h
  · intro h
    exact ⟨s, by rw [List.mem_filter, List.mem_range]; exact h, rfl⟩
theorem nearL_low {v : Venue} {x y r a : Int} (h : a ∈ nearL v x y r) : 0 ≤ a ∧ a < v.Seats.length := by
  unfold nearL at h
  obtain ⟨j, h, e⟩ := List.mem_map.1 h
  rw [List.mem_filter, List.mem_range] at h
  omega
theorem nearL_len (v : Venue) (x y r : Int) : (nearL v x y r).length ≤ v.Seats.length := by
  unfold nearL
  rw [List.length_map]
  have := List.length_filter_le (fun s => closeB (v.Seats.getD s default) (Seat.mk 0 x y 0) r) (List.range v.Seats.length)
  rw [List.length_range] at this
  exact this
structure Mk (M : List Bool) (Q : Nat → Prop) : Prop where
  len : M.length = 40
  get : ∀ i, i < 40 → ∃ b, M[i]? = some b ∧ (b = true ↔ Q i)
theorem Mk.set {M : List Bool} {Q : Nat → Prop} (h : Mk M Q) {j : Nat} (hj : j < 40) : Mk (M.set j true) (fun i => Q i ∨ i = j) := by
  refine ⟨by rw [List.length_set, h.len], fun i hi => ?_⟩
  by_cases e : j = i
  · subst e
    exact ⟨true, List.getElem?_set_self (by rw [h.len]; exact hi), by simp⟩
  · obtain ⟨b, e1, e2⟩ := h.get i hi
    refine ⟨b, by rw [List.getElem?_set_ne e, e1], ?_⟩
    rw [e2]
    constructor
    · exact .inl
    · rintro (h | h)
      · exact h
      · omega
theorem Mk.congr {M : List Bool} {Q Q' : Nat → Prop} (h : Mk M Q) (hq : ∀ i, i < 40 → (Q i ↔ Q' i)) : Mk M Q' :=
  ⟨h.len, fun i hi => by obtain ⟨b, e1, e2⟩ := h.get i hi; exact ⟨b, e1, e2.trans (hq i hi)⟩⟩
theorem Mk.zero : Mk (List.replicate 40 false) (fun _ => False) := by
  refine ⟨by simp, fun i hi => ⟨false, ?_, by simp⟩⟩
  rw [List.getElem?_replicate, if_pos hi]
theorem drop_some {l : List Int} {i : Nat} {y : Int} (h : l[i]? = some y) : l.drop i = y :: l.drop (i + 1) := by
  obtain ⟨h1, h2⟩ := List.getElem?_eq_some_iff.1 h
  rw [List.drop_eq_getElem_cons h1, h2]
theorem kn_l0 (k : Nat) (v : Venue) (hK : ∀ a, a ∈ v.Kills → 0 ≤ a ∧ a < 40) (hl : v.Kills.length ≤ 100) : ∀ (d n i : Nat) (M : List Bool) (Q : Nat → Prop), i + d = v.Kills.length → d < n → Mk M Q → ∃ M', law8_KillNear_l0 k v n M (i : Int) = some M' ∧ Mk M' (fun s => Q s ∨ (s : Int) ∈ v.Kills.drop i)
  | d, 0, i, M, Q, _, h, _ => absurd h (by omega)
  | 0, n + 1, i, M, Q, hi, _, hM => by
    rw [law8_KillNear_l0, condN (by omega)]
    exact ⟨M, rfl, hM.congr fun s _ => by rw [List.drop_eq_nil_of_le (by omega)]; simp⟩
  | d + 1, n + 1, i, M, Q, hi, h, hM => by
    obtain ⟨y, e1, e2⟩ := some_get (l := v.Kills) (i := i) (by omega)
    have hy := hK y (List.mem_of_getElem? e1)
    obtain ⟨y, rfl⟩ := Int.eq_ofNat_of_zero_le hy.1
    obtain ⟨b, b1, _⟩ := hM.get y (by omega)
    rw [law8_KillNear_l0, condD (by omega), bindS e2, gdD (by omega), bindS (idx_get (by omega) (by rw [Int.toNat_natCast]; exact b1)), wr_succ (by omega), Int.toNat_natCast]
    obtain ⟨M', f1, f2⟩ := kn_l0 k v hK hl d n (i + 1) (M.set y true) _ (by omega) (by omega) (hM.set (by omega))
    refine ⟨M', f1, f2.congr fun s _ => ?_⟩
    rw [drop_some e1, List.mem_cons]
    constructor
    · rintro ((h | h) | h)
      · exact .inl h
      · exact .inr (.inl (by omega))
      · exact .inr (.inr h)
    · rintro (h | h | h)
      · exact .inl (.inl h)
      · exact .inl (.inr (by omega))
      · exact .inr h
theorem kn_l4 (k : Nat) (v : Venue) (L : List Int) (hS : v.Seats.length ≤ 40) (hK : ∀ a, a ∈ L → 0 ≤ a ∧ a < v.Seats.length) (hl : L.length ≤ 100) : ∀ (d n i : Nat) (M : List Bool) (Q : Nat → Prop), i + d = L.length → d < n → Mk M Q → ∃ M', law8_KillNear_l4 k v L n M (i : Int) = some (.go M') ∧ Mk M' (fun s => Q s ∨ (s : Int) ∈ L.drop i)
  | d, 0, i, M, Q, _, h, _ => absurd h (by omega)
  | 0, n + 1, i, M, Q, hi, _, hM => by
    rw [law8_KillNear_l4, condN (by omega)]
    exact ⟨M, rfl, hM.congr fun s _ => by rw [List.drop_eq_nil_of_le (by omega)]; simp⟩
  | d + 1, n + 1, i, M, Q, hi, h, hM => by
    obtain ⟨y, e1, e2⟩ := some_get (l := L) (i := i) (by omega)
    have hy := hK y (List.mem_of_getElem? e1)
    obtain ⟨y, rfl⟩ := Int.eq_ofNat_of_zero_le hy.1
    obtain ⟨b, b1, _⟩ := hM.get y (by omega)
    rw [law8_KillNear_l4, condD (by omega), bindS e2, condN (by omega), bindS e2, condN (by omega), bindS e2, gdD (by omega), bindS (idx_get (by omega) (by rw [Int.toNat_natCast]; exact b1)), wr_succ (by omega), Int.toNat_natCast]
    obtain ⟨M', f1, f2⟩ := kn_l4 k v L hS hK hl d n (i + 1) (M.set y true) _ (by omega) (by omega) (hM.set (by omega))
    refine ⟨M', f1, f2.congr fun s _ => ?_⟩
    rw [drop_some e1, List.mem_cons]
    constructor
    · rintro ((h | h) | h)
      · exact .inl h
      · exact .inr (.inl (by omega))
      · exact .inr (.inr h)
    · rintro (h | h | h)
      · exact .inl (.inl h)
      · exact .inl (.inr (by omega))
      · exact .inr h
theorem kn_l3 {v : Venue} (hv : Small 2000 v) (hMay : MayV v) (hS : v.Seats.length ≤ 40) (hP : v.Poles.length ≤ 100) : ∀ (d n i : Nat) (M : List Bool) (Q : Nat → Prop), i + d = v.Poles.length → d < n → Mk M Q → ∃ M', law8_KillNear_l3 2000 v n M (i : Int) = some (.go M') ∧ Mk M' (fun s => Q s ∨ ∃ j, i ≤ j ∧ j < v.Poles.length ∧ s < v.Seats.length ∧ poleB v s j = true)
  | d, 0, i, M, Q, _, h, _ => absurd h (by omega)
  | 0, n + 1, i, M, Q, hi, _, hM => by
    rw [law8_KillNear_l3, condN (by omega)]
    refine ⟨M, rfl, hM.congr fun s _ => ⟨.inl, ?_⟩⟩
    rintro (h | ⟨j, h1, h2, _⟩)
    · exact h
    · omega
  | d + 1, n + 1, i, M, Q, hi, h, hM => by
    obtain ⟨p, e1, e2⟩ := some_get (l := v.Poles) (i := i) (by omega)
    obtain ⟨c1, c2, c3⟩ := hMay.poles i (by omega) p e1
    have hl := nearL_len v p.X p.Y p.R
    obtain ⟨M1, g1, g2⟩ := kn_l4 2000 v (nearL v p.X p.Y p.R) hS (fun a ha => nearL_low ha) (by omega) (nearL v p.X p.Y p.R).length 2000 0 M Q (by omega) (by omega) hM
    have g1 : law8_KillNear_l4 2000 v _ 2000 M 0 = _ := g1
    rw [law8_KillNear_l3, condD (by omega), bindS e2, bindS e2, bindS e2, bindS (geom_Near_eq hv hMay c1 c2 c3), bindS g1, elim_go, wr_succ (by omega)]
    obtain ⟨M', f1, f2⟩ := kn_l3 hv hMay hS hP d n (i + 1) M1 _ (by omega) (by omega) g2
    refine ⟨M', f1, f2.congr fun s _ => ?_⟩
    rw [List.drop_zero, nearL_mem]
    have hpb : poleB v s i = closeB (v.Seats.getD s default) (Seat.mk 0 p.X p.Y 0) p.R := by unfold poleB poleS; rw [getD_of e1]
    rw [← hpb]
    constructor
    · rintro ((h | h) | ⟨j, h1, h2, h3⟩)
      · exact .inl h
      · exact .inr ⟨i, by omega, by omega, h⟩
      · exact .inr ⟨j, by omega, h2, h3⟩
    · rintro (h | ⟨j, h1, h2, h3⟩)
      · exact .inl (.inl h)
      · rcases Nat.lt_or_ge i j with hl | hl
        · exact .inr ⟨j, by omega, h2, h3⟩
        · obtain rfl : j = i := by omega
          exact .inl (.inr h3)
theorem KillNear_true (a0 : List Int) (h0 : okLI a0) : ∃ k, law8_KillNear k a0 = some true := by
  refine ⟨2000, ?_⟩
  unfold law8_KillNear
  obtain ⟨v, e, hv⟩ := law3_Make_eq 2000 a0 30 (by omega) (by omega) (by omega)
  rw [bindS (show law3_Make 2000 a0 30 = some v from e)]
  have hS := made_small hv (by omega)
  have hn1 := hv.n1
  have hkl := hv.kl
  have hpl := hv.pl
  have hM := hv.may
  have hb := hS.b
  obtain ⟨M1, e1, m1⟩ := kn_l0 2000 v (fun a ha => by
    obtain ⟨j, hj, ej⟩ := List.getElem_of_mem ha
    have := hM.kills j hj a (by rw [List.getElem?_eq_getElem hj, ej])
    omega) (by omega) v.Kills.length 2000 0 _ _ (by omega) (by omega) Mk.zero
  obtain ⟨M2, e2, m2⟩ := kn_l3 hS hM (by omega) (by omega) v.Poles.length 2000 0 M1 _ (by omega) (by omega) m1
  have e1 : law8_KillNear_l0 2000 v 2000 _ 0 = _ := e1
  have e2 : law8_KillNear_l3 2000 v 2000 _ 0 = _ := e2
  rw [bindS e1, bindS e2, elim_go, bindS (kill_Usable_eq hS), mayB_iff.2 hM, cond_true, condNT (by rw [usL_len])]
  have hmark : ∀ s, s < v.Seats.length → M2[s]? = some (!deadB v s) := fun s hs => by
    obtain ⟨b, f1, f2⟩ := m2.get s (by omega)
    rw [f1]
    congr 1
    rw [List.drop_zero] at f2
    have hd := killL_nil (v := v) (s := s)
    cases hdd : deadB v s
    · rw [hdd] at hd
      show b = true
      rw [f2]
      apply Classical.byContradiction
      intro hh
      have : false = true := hd.2 ⟨fun hk => hh (.inl (.inr hk)), fun j hj => by
        cases hp : poleB v s j
        · rfl
        · exact absurd (.inr ⟨j, by omega, hj, hs, hp⟩) hh⟩
      cases this
    · rw [hdd] at hd
      have hd := hd.1 rfl
      show b = false
      cases b
      · rfl
      · have := f2.1 rfl
        rcases this with (h | h) | ⟨j, _, hj, _, hp⟩
        · exact absurd h id
        · exact absurd h hd.1
        · rw [hd.2 j hj] at hp
          cases hp
  have h := scan_go (f := fun n i => law8_KillNear_l5 2000 v (usL v) M2 n i) (len := v.Seats.length) (good := fun _ => True)
    (fun n i hi _ => by
      have hl := usL_len v
      have hm := hmark i hi
      have hi2 : idx M2 (i : Int) = some (!deadB v i) := idx_get (by omega) (by rw [Int.toNat_natCast]; exact hm)
      show law8_KillNear_l5 2000 v (usL v) M2 (n + 1) (i : Int) = _
      rw [law8_KillNear_l5, condD (by rw [hl]; omega), bindS (usL_idx hi), gdD (by omega), bindS hi2, condF (by cases deadB v i <;> rfl), bindS (kill_By_eq hS (i : Int)), condD (by omega), mayB_iff.2 hM, cond_true, Int.toNat_natCast, gdD (by omega), bindS hi2]
      have hdl : decide (0 < ((killL v i).length : Int)) = !deadB v i := by
        unfold deadB
        by_cases hz : (killL v i).length = 0
        · rw [decide_eq_true hz, decide_eq_false (by omega)]; rfl
        · rw [decide_eq_false hz, decide_eq_true (by omega)]; rfl
      rw [hdl, condF (by cases deadB v i <;> rfl), wr_succ (by omega)])
    (fun n => by
      have hl := usL_len v
      show law8_KillNear_l5 2000 v (usL v) M2 (n + 1) _ = _
      rw [law8_KillNear_l5, condN (by rw [hl]; omega)]) v.Seats.length 2000 0 (by omega) (by omega) (fun _ _ _ => trivial)
  have h : law8_KillNear_l5 2000 v (usL v) M2 2000 0 = _ := h
  rw [bindS h, elim_go, bindS law8_told_eq, condT rfl, bindS (ref2_May_eq 2000 v hS.hs hS.hk hS.hp (by omega)), mayB_iff.2 hM]
end Go.Px
