/- The pieces that Runs gathers. -/
import Derived.Test.YtlfpkjlaajfjnaaPKillAsks
import Derived.Test.YtlfpkjlaajfjnaaPRun
set_option linter.unusedVariables false
set_option linter.unusedSimpArgs false
namespace Go.Px
open Go Go.Sh
noncomputable def pcsF (v : Venue) (U : List Bool) : Nat → Nat → List (Nat × Nat)
  | 0, _ => []
  | d + 1, i => if i < v.Seats.length then (if 0 < runN v U (i : Int) then (i, runN v U (i : Int)) :: pcsF v U d (i + runN v U (i : Int)) else pcsF v U d (i + 1)) else []
def pieceL (p : Nat × Nat) : List Int := rangeL (p.1 : Int) p.2
theorem runs_gen {v : Venue} {U : List Bool} {f : Nat → List (List Int) → Int → Option (List (List Int))} (hN : v.Seats.length < 4294967290)
    (hs : ∀ (n i : Nat) acc, i < v.Seats.length → acc.length ≤ i → f (n + 1) acc (i : Int) = if 0 < runN v U (i : Int) then f n (acc ++ [rangeL (i : Int) (runN v U (i : Int))]) ((i + runN v U (i : Int) : Nat) : Int) else f n acc ((i + 1 : Nat) : Int))
    (he : ∀ n acc (i : Nat), v.Seats.length ≤ i → f (n + 1) acc (i : Int) = some acc) : ∀ (d n i : Nat) acc, v.Seats.length ≤ i + d → d < n → acc.length ≤ i → f n acc (i : Int) = some (acc ++ (pcsF v U d i).map pieceL)
  | d, 0, i, acc, _, h, _ => absurd h (by omega)
  | 0, n + 1, i, acc, hi, _, _ => by
    rw [he n acc i (by omega), pcsF]
    simp
  | d + 1, n + 1, i, acc, hi, h, ha => by
    rw [pcsF]
    by_cases hl : i < v.Seats.length
    · rw [hs n i acc hl ha, if_pos hl]
      by_cases h0 : 0 < runN v U (i : Int)
      · rw [if_pos h0, if_pos h0, runs_gen hN hs he d n (i + runN v U (i : Int)) _ (by omega) (by omega) (by simp; omega)]
        simp [pieceL]
      · rw [if_neg h0, if_neg h0, runs_gen hN hs he d n (i + 1) _ (by omega) (by omega) (by omega)]
    · rw [he n acc i (by omega), if_neg hl]
      simp
noncomputable def pcs (v : Venue) (U : List Bool) : List (Nat × Nat) := pcsF v U v.Seats.length 0
theorem pcsF_le {v : Venue} {U : List Bool} (hN : v.Seats.length < 4294967290) : ∀ (d i : Nat), (pcsF v U d i).length ≤ d ∧ ∀ p, p ∈ pcsF v U d i → p.2 ≤ v.Seats.length
  | 0, i => ⟨by simp [pcsF], by simp [pcsF]⟩
  | d + 1, i => by
    have hle := (runN_pre (v := v) (U := U) (s := (i : Int)) hN).le
    rw [pcsF]
    split
    · split
      · obtain ⟨a, b⟩ := pcsF_le hN d (i + runN v U (i : Int))
        refine ⟨by simp; omega, fun p hp => ?_⟩
        rcases List.mem_cons.1 hp with rfl | hp
        · exact hle
        · exact b p hp
      · obtain ⟨a, b⟩ := pcsF_le hN d (i + 1)
        exact ⟨by omega, b⟩
    · simp
theorem max1 {r : Nat} (h : 0 < r) : (if (1 : Int) > (r : Int) then (1 : Int) else (r : Int)) = (r : Int) := by rw [if_neg (by omega)]
theorem run_Runs_eq {k : Nat} {v : Venue} (hv : Small k v) {U : List Bool} : run_Runs k v U = some (cond (mayB v) ((pcs v U).map pieceL) []) := by
  have hb := hv.b
  have hs := hv.hs
  unfold run_Runs
  rw [bindS (venue_May_eq k v hv.hs hv.hk hv.hp (by omega))]
  cases mayB v
  · rfl
  rw [cNT]
  have h := runs_gen (v := v) (U := U) (f := fun n a i => run_Runs_l0 k v U n a i) (by omega)
    (fun n i acc hi ha => by
      have hp := runN_pre (v := v) (U := U) (s := (i : Int)) (by omega)
      have hle := hp.le
      show run_Runs_l0 k v U (n + 1) acc (i : Int) = if _ then run_Runs_l0 k v U n _ _ else run_Runs_l0 k v U n _ _
      rw [run_Runs_l0, condD (by omega), bindS (run_long_N ⟨by omega, by omega⟩ hs hb)]
      by_cases h0 : 0 < runN v U (i : Int)
      · rw [condD (by omega), if_pos h0, max1 h0, bindS (run_piece_eq k (i : Int) (runN v U (i : Int)) (by omega) (by omega) hb), gdD (by simp only [List.length_singleton]; omega), wr_id (by omega) (by omega)]
        congr 1
      · rw [condN (by omega), if_neg h0, if_pos (by omega), wr_succ (by omega)])
    (fun n acc i hi => by show run_Runs_l0 k v U (n + 1) acc _ = _; rw [run_Runs_l0, condN (by omega)])
    v.Seats.length k 0 [] (by omega) hs (by simp)
  have h : run_Runs_l0 k v U k [] 0 = _ := h
  rw [bindS h]
  rfl
theorem ref6_Runs_eq {k : Nat} {v : Venue} (hv : Small k v) {U : List Bool} : ref6_Runs k v U = some (cond (mayB v) ((pcs v U).map pieceL) []) := by
  have hb := hv.b
  have hs := hv.hs
  unfold ref6_Runs
  rw [bindS (ref2_May_eq k v hv.hs hv.hk hv.hp (by omega))]
  cases mayB v
  · rfl
  rw [cNT]
  have h := runs_gen (v := v) (U := U) (f := fun n a i => ref6_Runs_l0 k v U n a i) (by omega)
    (fun n i acc hi ha => by
      have hp := runN_pre (v := v) (U := U) (s := (i : Int)) (by omega)
      have hle := hp.le
      show ref6_Runs_l0 k v U (n + 1) acc (i : Int) = if _ then ref6_Runs_l0 k v U n _ _ else ref6_Runs_l0 k v U n _ _
      rw [ref6_Runs_l0, condD (by omega), bindS (ref6_long_N hs hb)]
      by_cases h0 : 0 < runN v U (i : Int)
      · rw [condD (by omega), if_pos h0, max1 h0, bindS (ref6_row_eq k (i : Int) (runN v U (i : Int)) (by omega) (by omega) hb), gdD (by simp only [List.length_singleton]; omega), wr_id (by omega) (by omega)]
        congr 1
      · rw [condN (by omega), if_neg h0, if_pos (by omega), wr_succ (by omega)])
    (fun n acc i hi => by show ref6_Runs_l0 k v U (n + 1) acc _ = _; rw [ref6_Runs_l0, condN (by omega)])
    v.Seats.length k 0 [] (by omega) hs (by simp)
  have h : ref6_Runs_l0 k v U k [] 0 = _ := h
  rw [bindS h]
  rfl
theorem lists_refl (k : Nat) (l : List (List Int)) (hl : l.length < k) (hb : k ≤ 4294967290) (hx : ∀ x, x ∈ l → x.length < k) : law7_lists k l l = some true := by
  unfold law7_lists
  rw [condNT rfl]
  have h := scan_go (f := fun n i => law7_lists_l0 k l l n i) (len := l.length) (good := fun _ => True)
    (fun n i hi _ => by
      show law7_lists_l0 k l l (n + 1) (i : Int) = _
      obtain ⟨y, e1, e2⟩ := some_get hi
      have := hx y (List.mem_of_getElem? e1)
      rw [law7_lists_l0, condD (by omega), bindS e2, bindS e2, bindS (sameInts_refl k y this (by omega)), cNT, wr_succ (by omega)])
    (fun n => by show law7_lists_l0 k l l (n + 1) _ = _; rw [law7_lists_l0, condN (by omega)]) l.length k 0 (by omega) hl (fun _ _ _ => trivial)
  have h : law7_lists_l0 k l l k 0 = _ := h
  rw [bindS h, elim_go]
theorem law7_told_eq : law7_told 2000 = some true := by decide +kernel
theorem takeV_len {v : Venue} {U : List Bool} {s m : Int} (hN : v.Seats.length < 4294967290) : (takeV v U s m).1.length ≤ v.Seats.length := by
  have hle := (runN_pre (v := v) (U := U) (s := s) hN).le
  unfold takeV
  split
  · simp only [rangeL_len]; omega
  · simp
theorem RunAsks_true (a0 : Venue) (h0 : okVenue a0) (a1 : List Bool) (h1 : okLB a1) (a2 : Int) (h2 : okI a2) (a3 : Int) (h3 : okI a3) : ∃ k, law7_RunAsks k a0 a1 a2 a3 = some true := by
  refine ⟨2000, ?_⟩
  unfold law7_RunAsks
  rw [bindS (law3_Few_eq _ _)]
  by_cases hf : a0.Seats.length ≤ 40 ∧ a0.Kills.length ≤ 40 ∧ a0.Poles.length ≤ 40
  · rw [condNT hf, bindS rfl]
    by_cases hl : 50 < (a1.length : Int)
    · rw [condD hl, bindS law7_told_eq]
    rw [condN hl]
    have hv := small_few hf
    have step : ∀ (n : Nat) (s m : Int) (q : Int), okI s → q < 2 → 0 ≤ q → law7_RunAsks_l0 2000 a0 a1 (n + 1) s m q = law7_RunAsks_l0 2000 a0 a1 n (wr ((IntKind.u64.wrap s).tmod (IntKind.u64.wrap (wr ((a0.Seats.length : Int) + 1))))) (wr (1 + (wr ((IntKind.u64.wrap m).tmod 6)))) (wr (q + 1)) := fun n s m q hs hq hq0 => by
      have hp := pcsF_le (v := a0) (U := a1) (by omega) a0.Seats.length 0
      rw [law7_RunAsks_l0, condD hq, bindS (run_Of_eq hv m hs), bindS (ref6_Run_eq hv m), bindS (run_Next_eq hv), bindS (ref6_Next_eq hv hs), condF (by simp), bindS (run_Long_eq hv hs), bindS (ref6_Long_eq hv), condNT rfl, condF (by simp),
        bindS (sameInts_refl _ _ (by have := takeV_len (v := a0) (U := a1) (s := s) (m := m) (by omega); cases mayB a0 <;> simp <;> omega) (by have := takeV_len (v := a0) (U := a1) (s := s) (m := m) (by omega); cases mayB a0 <;> simp <;> omega)), cNT, bindS (run_Runs_eq hv), bindS (ref6_Runs_eq hv),
        bindS (lists_refl _ _ (by cases mayB a0 <;> simp [pcs] <;> omega) (by omega) (fun x hx => by
          cases hm : mayB a0
          · rw [hm] at hx; simp at hx
          · rw [hm] at hx
            simp only [cond_true] at hx
            obtain ⟨p, hp1, rfl⟩ := List.mem_map.1 hx
            have := hp.2 p hp1
            unfold pieceL
            rw [rangeL_len]
            omega)), cNT, wr_id (x := (a0.Seats.length : Int) + 1) (by omega) (by omega), gdD (by rw [wu_id (by omega) (by omega)]; omega)]
    have hw : IntKind.u64.wrap (wr ((a0.Seats.length : Int) + 1)) = (a0.Seats.length : Int) + 1 := by rw [wr_id (by omega) (by omega), wu_id (by omega) (by omega)]
    have u := um a2 ((a0.Seats.length : Int) + 1) (by omega)
    have e1 := step 1999 a2 a3 0 h2 (by omega) (by omega)
    have e2 := step 1998 (wr ((IntKind.u64.wrap a2).tmod (IntKind.u64.wrap (wr ((a0.Seats.length : Int) + 1))))) (wr (1 + (wr ((IntKind.u64.wrap a3).tmod 6)))) 1 (by rw [hw, wr_id (by omega) (by omega)]; exact ⟨by omega, by omega⟩) (by omega) (by omega)
    rw [e1, show wr (0 + 1) = 1 by decide, e2, show wr (1 + 1) = 2 by decide, law7_RunAsks_l0, condN (by omega), bindS rfl, elim_go, bindS law7_told_eq]
  · rw [condNF hf, bindS rfl, condT rfl, bindS law7_told_eq]
end Go.Px
