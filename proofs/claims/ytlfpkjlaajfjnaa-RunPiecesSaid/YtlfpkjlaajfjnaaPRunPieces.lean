/- The law RunPieces over the plain functions. -/
import Derived.Test.YtlfpkjlaajfjnaaPRunOf
set_option linter.unusedVariables false
set_option linter.unusedSimpArgs false
namespace Go.Px
open Go Go.Sh
/-- Each free seat below p is counted once, no other. -/
structure MkC (v : Venue) (U : List Bool) (M : List Int) (p : Nat) : Prop where
  len : M.length = 40
  get : ∀ s : Nat, s < 40 → M[s]? = some (if s < p ∧ freeB v U (s : Int) = true then 1 else 0)
theorem MkC.same {v : Venue} {U : List Bool} {M : List Int} {p q : Nat} (h : MkC v U M p) (he : ∀ s : Nat, (s < p ∧ freeB v U (s : Int) = true) ↔ (s < q ∧ freeB v U (s : Int) = true)) : MkC v U M q :=
  ⟨h.len, fun s hs => by rw [h.get s hs]; simp only [he s]⟩
theorem MkC.add {v : Venue} {U : List Bool} {M : List Int} {p : Nat} (h : MkC v U M p) (hp : p < 40) (hf : freeB v U (p : Int) = true) : MkC v U (M.set p 1) (p + 1) := by
  refine ⟨by rw [List.length_set, h.len], fun s hs => ?_⟩
  by_cases e : p = s
  · subst e
    rw [List.getElem?_set_self (by rw [h.len]; exact hp), if_pos ⟨by omega, hf⟩]
  · rw [List.getElem?_set_ne e, h.get s hs]
    by_cases hfs : freeB v U (s : Int) = true
    · by_cases hl : s < p
      · rw [if_pos ⟨hl, hfs⟩, if_pos ⟨by omega, hfs⟩]
      · rw [if_neg (fun h => hl h.1), if_neg (fun h => by omega)]
    · rw [if_neg (fun h => hfs h.2), if_neg (fun h => hfs h.2)]
theorem rp_l3 {v : Venue} (hv : Small 2000 v) (hM : MayV v) (hN : v.Seats.length ≤ 30) (U : List Bool) (R : List (List Int)) (w : Nat) (p r : Nat) (hR : R[w]? = some (rangeL (p : Int) r)) (hr : ∀ j, j < r → onB v U (p : Int) j = true) :
    ∀ (d n j : Nat) (M : List Int) (last : Int), j + d = r → d < n → MkC v U M (p + j) → last < ((p + j : Nat) : Int) → ∃ M' last', law7_RunPieces_l3 2000 v R (w : Int) n M last (j : Int) = some (.go (M', last')) ∧ MkC v U M' (p + r) ∧ last' < ((p + r : Nat) : Int)
  | d, 0, j, M, last, _, h, _, _ => absurd h (by omega)
  | 0, n + 1, j, M, last, hj, _, hm, hl => by
    obtain rfl : j = r := by omega
    rw [law7_RunPieces_l3, bindS (idx_get (by omega) (by rw [Int.toNat_natCast]; exact hR)), condN (by rw [rangeL_len]; omega)]
    exact ⟨M, last, rfl, hm, hl⟩
  | d + 1, n + 1, j, M, last, hj, h, hm, hl => by
    have hR' : idx R (w : Int) = some (rangeL (p : Int) r) := idx_get (by omega) (by rw [Int.toNat_natCast]; exact hR)
    have hon := hr j (by omega)
    have hf := onB_free hon
    have hlow := free_low hf
    have hget : idx (rangeL (p : Int) r) (j : Int) = some ((p + j : Nat) : Int) := idx_get (by omega) (by rw [Int.toNat_natCast, rangeL_get (by omega)]; congr 1)
    have hf' : freeB v U ((p + j : Nat) : Int) = true := by rw [show ((p + j : Nat) : Int) = (p : Int) + (j : Int) by omega]; exact hf
    have hM0 : idx M ((p + j : Nat) : Int) = some 0 := idx_get (by omega) (by rw [Int.toNat_natCast, hm.get _ (by omega), if_neg (fun h => by omega)])
    obtain ⟨M', last', e1, e2, e3⟩ := rp_l3 hv hM hN U R w p r hR hr d n (j + 1) (M.set (p + j) 1) ((p + j : Nat) : Int) (by omega) (by omega) (hm.add (by omega) hf') (by omega)
    rw [law7_RunPieces_l3, bindS hR', condD (by rw [rangeL_len]; omega), bindS hR', bindS hget, condN (by omega), condN (by omega), wr_succ (by omega), gdD (by omega), bindS hM0, bindS hM0, Int.toNat_natCast, show wr (0 + 1) = 1 by decide]
    refine ⟨M', last', ?_, e2, e3⟩
    by_cases h0 : 0 < j
    · have hnx := onB_next hon h0
      rw [condD (by omega), wr_pred (by omega) (by omega), bindS (run_Next_eq hv), mayB_iff.2 hM, cond_true, show ((p + j - 1 : Nat) : Int) = (p : Int) + (j : Int) - 1 by omega, hnx, cNT, gdD (by omega)]
      exact e1
    · rw [condN (by omega), gdD (by omega)]
      exact e1
theorem rp_l2 {v : Venue} (hv : Small 2000 v) (hM : MayV v) (hN : v.Seats.length ≤ 30) (U : List Bool) (L : List (Nat × Nat)) (hL : L.length ≤ 100) :
    ∀ (d p n i : Nat) (M : List Int) (last : Int), L.drop i = pcsF v U d p → v.Seats.length ≤ p + d → (freeB v U (p : Int) = true → startB v U p = true) → MkC v U M p → last < (p : Int) → L.length < n + i → i ≤ L.length → ∃ M', law7_RunPieces_l2 2000 U v (L.map pieceL) n M last (i : Int) = some (.go M') ∧ MkC v U M' v.Seats.length
  | 0, p, n, i, M, last, hd, hp, hs, hm, hl, hn, hi => by
    rw [pcsF] at hd
    have hi2 := List.drop_eq_nil_iff.1 hd
    obtain ⟨n, rfl⟩ : ∃ q, n = q + 1 := ⟨n - 1, by omega⟩
    rw [law7_RunPieces_l2, condN (by rw [List.length_map]; omega)]
    exact ⟨M, rfl, hm.same fun s => ⟨fun h => by have := free_low h.2; exact ⟨by omega, h.2⟩, fun h => by have := free_low h.2; exact ⟨by omega, h.2⟩⟩⟩
  | d + 1, p, n, i, M, last, hd, hp, hs, hm, hl, hn, hi => by
    rw [pcsF] at hd
    by_cases hlt : p < v.Seats.length
    · rw [if_pos hlt] at hd
      have hpre := runN_pre (v := v) (U := U) (s := (p : Int)) (by omega)
      by_cases h0 : 0 < runN v U (p : Int)
      · rw [if_pos h0] at hd
        have hpos := runN_pos (v := v) (U := U) (s := (p : Int)) (by omega) h0
        have hrl : run_Long 2000 v U (p : Int) = some (runN v U (p : Int) : Int) := by rw [run_Long_eq hv ⟨by omega, by omega⟩, mayB_iff.2 hM, cond_true]
        generalize hr : runN v U (p : Int) = r at *
        have hlen : i < L.length := by
          rcases Nat.lt_or_ge i L.length with h | h
          · exact h
          · rw [List.drop_eq_nil_of_le h] at hd
            cases hd
        have hLi : L[i]? = some (p, r) := by
          rw [List.drop_eq_getElem_cons hlen] at hd
          rw [List.getElem?_eq_getElem hlen, (List.cons.inj hd).1]
        have hd2 : L.drop (i + 1) = pcsF v U d (p + r) := by
          rw [List.drop_eq_getElem_cons hlen] at hd
          exact (List.cons.inj hd).2
        have hR : (L.map pieceL)[i]? = some (rangeL (p : Int) r) := by rw [List.getElem?_map, hLi]; rfl
        have hR' : idx (L.map pieceL) (i : Int) = some (rangeL (p : Int) r) := idx_get (by omega) (by rw [Int.toNat_natCast]; exact hR)
        have hg0 : idx (rangeL (p : Int) r) 0 = some (p : Int) := by
          have := rangeL_get (s := (p : Int)) (m := r) (i := 0) h0
          rw [show (p : Int) + ((0 : Nat) : Int) = p by omega] at this
          exact idx_get (by omega) this
        have hf : freeB v U (p : Int) = true := by have := hpre.all 0 h0; rw [onB_zero] at this; exact this
        have hst := hs hf
        obtain ⟨n, rfl⟩ : ∃ q, n = q + 1 := ⟨n - 1, by omega⟩
        have hcont : freeB v U ((p + r : Nat) : Int) = true → startB v U (p + r) = true := fun hff => by
          have hfl := free_low hff
          have hst := hpre.stop (by omega)
          unfold onB at hst
          rw [show ((p : Int) + (r : Int)) = ((p + r : Nat) : Int) by omega, hff, Bool.true_and, decide_eq_false (by omega), Bool.false_or] at hst
          unfold startB
          rw [hff, hst, Bool.and_false, Bool.and_false]
          rfl
        obtain ⟨M1, last1, e1, e2, e3⟩ := rp_l3 hv hM hN U (L.map pieceL) i p r hR hpre.all r 2000 0 M last (by omega) (by omega) hm hl
        have e1 : law7_RunPieces_l3 2000 v (L.map pieceL) (i : Int) 2000 M last 0 = _ := e1
        obtain ⟨M', f1, f2⟩ := rp_l2 hv hM hN U L hL d (p + r) n (i + 1) M1 last1 hd2 (by omega) hcont e2 e3 (by omega) (by omega)
        have hA : (Option.bind (idx (L.map pieceL) (i : Int)) fun y309 => cond (decide ((y309.length : Int) = 0)) (some true) (Option.bind (idx (L.map pieceL) (i : Int)) fun y312 => Option.bind (idx (L.map pieceL) (i : Int)) fun y314 => Option.bind (idx y314 0) fun y316 => Option.bind (run_Long 2000 v U y316) fun r318 => some (!decide ((y312.length : Int) = r318)))) = some false := by
          rw [bindS hR', condN (by rw [rangeL_len]; omega), bindS hR', bindS hR', bindS hg0, bindS hrl, rangeL_len, decide_eq_true rfl]
          rfl
        have hB : (cond (decide (0 < (p : Int))) (Option.bind (run_Next 2000 v (wr ((p : Int) - 1))) fun r336 => cond r336 (cond (decide ((wr ((p : Int) - 1)) < (U.length : Int))) (Option.bind (idx U (wr ((p : Int) - 1))) fun y340 => some y340) (some false)) (some false)) (some false)) = some false := by
          by_cases hp0 : 0 < p
          · rw [condD (by omega), wr_id (x := (p : Int) - 1) (by omega) (by omega), bindS (run_Next_eq hv), mayB_iff.2 hM, cond_true]
            cases hnx : nextB v ((p : Int) - 1)
            · rfl
            · rw [cond_true]
              by_cases hu : (p : Int) - 1 < (U.length : Int)
              · have hidx : U[((p : Int) - 1).toNat]? = some (U[((p : Int) - 1).toNat]'(by omega)) := List.getElem?_eq_getElem _
                rw [condD hu, bindS (idx_get (by omega) hidx)]
                cases hb : (U[((p : Int) - 1).toNat]'(by omega))
                · rfl
                · exfalso
                  have hfr : freeB v U ((p : Int) - 1) = true := by
                    unfold freeB
                    rw [hidx, hb, decide_eq_true (by omega)]
                    rfl
                  unfold startB at hst
                  rw [hfr, hnx, decide_eq_true hp0, hf] at hst
                  cases hst
              · rw [condN hu]
          · rw [condN (by omega)]
        rw [law7_RunPieces_l2, condD (by rw [List.length_map]; omega), bindS hA, condF rfl, bindS hR', bindS hg0, bindS hB, condF rfl, bindS e1, elim_go, wr_succ (by omega)]
        exact ⟨M', f1, f2⟩
      · rw [if_neg h0] at hd
        have hf : freeB v U (p : Int) = false := by
          have := hpre.stop (by omega)
          rw [show runN v U (p : Int) = 0 by omega, onB_zero] at this
          exact this
        have hcont : freeB v U ((p + 1 : Nat) : Int) = true → startB v U (p + 1) = true := fun hff => by
          unfold startB
          rw [hff, show ((p + 1 : Nat) : Int) - 1 = (p : Int) by omega, hf]
          simp
        exact rp_l2 hv hM hN U L hL d (p + 1) n i M last hd (by omega) hcont (hm.same fun s => ⟨fun h => ⟨by omega, h.2⟩, fun h => by
          rcases Nat.lt_or_ge s p with hh | hh
          · exact ⟨hh, h.2⟩
          · obtain rfl : s = p := by omega
            rw [hf] at h
            cases h.2⟩) (by omega) hn hi
    · rw [if_neg hlt] at hd
      have hi2 := List.drop_eq_nil_iff.1 hd
      obtain ⟨n, rfl⟩ : ∃ q, n = q + 1 := ⟨n - 1, by omega⟩
      rw [law7_RunPieces_l2, condN (by rw [List.length_map]; omega)]
      exact ⟨M, rfl, hm.same fun s => ⟨fun h => by have := free_low h.2; exact ⟨by omega, h.2⟩, fun h => by have := free_low h.2; exact ⟨by omega, h.2⟩⟩⟩
theorem RunPieces_true (a0 : List Int) (h0 : okLI a0) (a1 : List Bool) (h1 : okLB a1) : ∃ k, law7_RunPieces k a0 a1 = some true := by
  refine ⟨2000, ?_⟩
  unfold law7_RunPieces
  obtain ⟨v, e, hv⟩ := law3_Make_eq 2000 a0 30 (by omega) (by omega) (by omega)
  rw [bindS (show law3_Make 2000 a0 30 = some v from e)]
  have hn0 := hv.may.n0
  have hn1 := hv.n1
  have hS := made_small hv (by omega)
  have hM := hv.may
  have hpc := pcsF_le (v := v) (U := a1) (by omega) v.Seats.length 0
  have hM0 : MkC v a1 (List.replicate 40 0) 0 := ⟨by simp, fun s hs => by rw [List.getElem?_replicate, if_pos hs, if_neg (fun h => by omega)]⟩
  obtain ⟨M, f1, f2⟩ := rp_l2 hS hM (by omega) a1 (pcs v a1) (by unfold pcs; omega) v.Seats.length 0 2000 0 (List.replicate 40 0) (-1) (by unfold pcs; rw [List.drop_zero]) (by omega) (fun h => by unfold startB; rw [h]; rfl) hM0 (by omega) (by unfold pcs; omega) (by omega)
  have f1 : law7_RunPieces_l2 2000 a1 v ((pcs v a1).map pieceL) 2000 (List.replicate 40 0) (-1) 0 = _ := f1
  rw [bindS (run_Runs_eq hS), mayB_iff.2 hM, cond_true, bindS f1, elim_go]
  have h := scan_go (f := fun n i => law7_RunPieces_l4 2000 a1 v M n i) (len := v.Seats.length) (good := fun _ => True)
    (fun n i hi _ => by
      show law7_RunPieces_l4 2000 a1 v M (n + 1) (i : Int) = _
      have hb : (cond (decide ((i : Int) < (a1.length : Int))) (Option.bind (idx a1 (i : Int)) fun y470 => some y470) (some false)) = some (freeB v a1 (i : Int)) := by
        unfold freeB
        rw [decide_eq_true (p := 0 ≤ (i : Int) ∧ (i : Int) < (v.Seats.length : Int)) (by omega), Bool.true_and, Int.toNat_natCast]
        by_cases hl : i < a1.length
        · obtain ⟨y, e1, e2⟩ := some_get hl
          rw [condD (by omega), bindS e2, e1]
          rfl
        · rw [condN (by omega), List.getElem?_eq_none (by omega)]
          rfl
      have hm := f2.get i (by omega)
      rw [law7_RunPieces_l4, condD (by omega), bindS hb, gdD (by omega), bindS (idx_get (by omega) (by rw [Int.toNat_natCast]; exact hm)), wr_succ (by omega)]
      cases hf : freeB v a1 (i : Int)
      · rw [if_neg (by simp)]
        rfl
      · rw [if_pos ⟨hi, rfl⟩]
        rfl)
    (fun n => by show law7_RunPieces_l4 2000 a1 v M (n + 1) _ = _; rw [law7_RunPieces_l4, condN (by omega)]) v.Seats.length 2000 0 (by omega) (by omega) (fun _ _ _ => trivial)
  have h : law7_RunPieces_l4 2000 a1 v M 2000 0 = _ := h
  rw [bindS h, elim_go, bindS law7_told_eq, condT rfl, bindS (ref2_May_eq 2000 v hS.hs hS.hk hS.hp (by omega)), mayB_iff.2 hM]
end Go.Px
