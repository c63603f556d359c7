/- The laws PlanPins and PlanLess over the plain functions. -/
import Derived.Test.YtlfpkjlaajfjnaaPPlans
set_option linter.unusedVariables false
set_option linter.unusedSimpArgs false
namespace Go.Px
open Go Go.Sh
theorem law12_told_eq : law12_told 20000 = some true := by decide +kernel
section
variable {v : Venue} {L : List Party}
theorem PlanP.free {P : List Pin} {r : List Int} (h : PlanP v L P r) : PlanP v L [] r :=
  ⟨⟨h.inn.1, PinOK_nil, h.inn.2.2⟩, h.len, fun i hi => ⟨fun f hf => (by cases hf), (h.at_ i hi).pl, (h.at_ i hi).ap⟩⟩
theorem PlanP.pins {P : List Pin} {r : List Int} (h : PlanP v L [] r) (hP : PinOK v L P) (hh : ∀ i : Nat, i < P.length → aI r (aI P (i : Int)).Party = (aI P (i : Int)).First) : PlanP v L P r :=
  ⟨⟨h.inn.1, hP, h.inn.2.2⟩, h.len, fun i hi => ⟨fun f hf => by
    obtain ⟨j, h1, h2, h3⟩ := pinAt_some hf
    have := hh j h1
    rw [h2] at this
    rw [this, h3], (h.at_ i hi).pl, (h.at_ i hi).ap⟩⟩
theorem PlanP.held {P : List Pin} {r : List Int} (h : PlanP v L P r) {i : Nat} (hi : i < P.length) : aI r (aI P (i : Int)).Party = (aI P (i : Int)).First := by
  have hG := h.inn.2.1 i hi
  have h1 := hG.lo
  have h2 := hG.hi
  have := (h.at_ (aI P (i : Int)).Party.toNat (by rw [h.len]; omega)).pin (aI P (i : Int)).First
  rw [show (((aI P (i : Int)).Party.toNat : Nat) : Int) = (aI P (i : Int)).Party by omega] at this
  exact this (pinAt_get h.inn.2.1.rise hi)
/-- The plan of the pins alone. -/
def pinPlan (L : List Party) (P : List Pin) : List Int := (List.range L.length).map (fun i : Nat => (pinAt P (i : Int)).getD (-1))
theorem pinPlan_at {P : List Pin} {i : Nat} (h : i < L.length) : aI (pinPlan L P) (i : Int) = (pinAt P (i : Int)).getD (-1) := by
  unfold aI pinPlan
  rw [Int.toNat_natCast, List.getD_eq_getElem?_getD, List.getElem?_map, List.getElem?_range h]
  rfl
theorem pinPlan_P {k : Nat} (hv : Small k v) {P : List Pin} (hI : InOK v L P) : PlanP v L P (pinPlan L P) := by
  have hl : (pinPlan L P).length = L.length := by unfold pinPlan; simp
  have hP := hI.2.1
  have hsome : ∀ i : Nat, i < L.length → ¬ aI (pinPlan L P) (i : Int) = -1 → ∃ j, j < P.length ∧ (aI P (j : Int)).Party = (i : Int) ∧ (aI P (j : Int)).First = aI (pinPlan L P) (i : Int) := fun i hi h => by
    rw [pinPlan_at hi] at h ⊢
    cases hp : pinAt P (i : Int) with
    | none => rw [hp] at h; exact absurd rfl h
    | some f => exact pinAt_some hp
  refine ⟨hI, hl, fun i hi => ⟨fun f hf => ?_, fun h => ?_, fun h j hj hn => ?_⟩⟩
  · rw [pinPlan_at (by omega), hf]; rfl
  · obtain ⟨j, h1, h2, h3⟩ := hsome i (by omega) h
    have := (hP j h1).pl
    rw [h2, h3] at this
    exact this
  · obtain ⟨a, a1, a2, a3⟩ := hsome i (by omega) h
    obtain ⟨b, b1, b2, b3⟩ := hsome j (by omega) hn
    have hba : b < a := by
      rcases Nat.lt_trichotomy b a with h | h | h
      · exact h
      · rw [h] at b2; omega
      · have := hP.rise a b h b1; omega
    have := (hP a a1).ap b hba
    rw [a2, a3, b2, b3] at this
    exact this
theorem planLess_l0 {k : Nat} {P : List Pin} {r : List Int} {a4 w : Int} (hw : wr ((IntKind.u64.wrap a4).tmod (IntKind.u64.wrap ((([] : List Int) ++ r).length : Int))) = w) (hl : P.length ≤ 1000) : ∀ (d n i : Nat) (b : Bool), i + d = P.length → d < n →
    law12_PlanLess_l0 k a4 P r n b (i : Int) = some (b || dB (∃ m : Nat, i ≤ m ∧ m < P.length ∧ (aI P (m : Int)).Party = w))
  | d, 0, i, b, _, h => absurd h (by omega)
  | 0, n + 1, i, b, h, _ => by
    rw [law12_PlanLess_l0, condN (by omega), dB_F (fun ⟨m, h1, h2, _⟩ => by omega), Bool.or_false]
  | d + 1, n + 1, i, b, h, hd => by
    rw [law12_PlanLess_l0, condD (by omega), wr_succ (by omega)]
    cases b
    · rw [cond_false, bindS (idx_aI (by omega) (by omega)), hw, planLess_l0 hw hl d n (i + 1) _ (by omega) (by omega), Bool.false_or]
      congr 1
      by_cases h1 : (aI P (i : Int)).Party = w
      · rw [decide_eq_true h1, Bool.true_or, dB_T ⟨i, by omega, by omega, h1⟩]
      · rw [decide_eq_false h1, Bool.false_or, Bool.eq_iff_iff, dB_iff, dB_iff]
        constructor
        · rintro ⟨m, a, b, c⟩; exact ⟨m, by omega, b, c⟩
        · rintro ⟨m, a, b, c⟩
          rcases Nat.lt_or_ge i m with x | x
          · exact ⟨m, x, b, c⟩
          · exact absurd (by rw [show i = m by omega]; exact c) h1
    · rw [cond_true, planLess_l0 hw hl d n (i + 1) _ (by omega) (by omega), Bool.true_or, Bool.true_or]
theorem PlanP.less {r : List Int} (h : PlanP v L [] r) {w : Nat} (hw : w < r.length) : PlanP v L [] (r.set w (-1)) := by
  refine ⟨h.inn, by rw [List.length_set, h.len], fun i hi => ?_⟩
  rw [List.length_set] at hi
  have hG := h.at_ i hi
  refine ⟨fun f hf => (by cases hf), fun h1 => ?_, fun h1 j hj h2 => ?_⟩
  · rw [aI_set hw] at h1 ⊢
    split at h1
    · exact absurd rfl h1
    · rename_i hne
      rw [if_neg hne]
      exact hG.pl h1
  · rw [aI_set hw] at h1 h2 ⊢
    rw [aI_set hw]
    split at h1
    · exact absurd rfl h1
    split at h2
    · exact absurd rfl h2
    rename_i hne hne2
    rw [if_neg hne, if_neg hne2]
    exact hG.ap h1 j hj h2
theorem seatN_less {r : List Int} {w : Nat} (hw : w < r.length) : ∀ n : Nat, seatN L (r.set w (-1)) n = seatN L r n - if w < n then (if 0 ≤ aI r (w : Int) then (aI L (w : Int)).Size else 0) else 0
  | 0 => by rw [seatN, seatN, if_neg (by omega)]; rfl
  | n + 1 => by
    rw [seatN, seatN, seatN_less hw n, aI_set hw]
    by_cases h : n = w
    · subst h
      rw [if_pos rfl, if_neg (Nat.lt_irrefl n), if_pos (Nat.lt_succ_self n), if_neg (by omega)]
      omega
    · rw [if_neg h]
      by_cases h2 : w < n
      · rw [if_pos h2, if_pos (show w < n + 1 by omega)]; omega
      · rw [if_neg h2, if_neg (show ¬ w < n + 1 by omega)]; omega
theorem PlanP.less_pin {k : Nat} (hv : Small k v) {P : List Pin} {r : List Int} (h : PlanP v L P r) {w : Nat} (hw : w < r.length) {m : Nat} (hm : m < P.length) (hP : (aI P (m : Int)).Party = (w : Int)) : wrongV v L P (r.set w (-1)) = (w : Int) := by
  have hl : (r.set w (-1)).length = r.length := List.length_set
  unfold wrongV
  rw [if_pos ⟨h.inn, by rw [hl, h.len]⟩]
  unfold badI
  have hn : ¬ OkAt v L P (r.set w (-1)) w := fun ho => by
    have := ho.pin _ (by rw [← hP]; exact pinAt_get h.inn.2.1.rise hm)
    rw [aI_set hw, if_pos rfl] at this
    have hpl := (h.inn.2.1 m hm).pl
    rw [← this] at hpl
    have := (plB_in hv hpl).2.2.1
    omega
  refine fstF_at (by omega) (by omega) (fun j _ hj => ?_) hn
  have hf := (h.free.less hw).at_ j (by rw [hl]; omega)
  refine ⟨fun f hf => ?_, hf.pl, hf.ap⟩
  rw [aI_set hw, if_neg (by omega)]
  exact (h.at_ j (by omega)).pin f hf
theorem PlanLess_true (a0 : List Int) (h0 : okLI a0) (a1 : List Int) (h1 : okLI a1) (a2 : Int) (h2 : okI a2) (a3 : Int) (h3 : okI a3) (a4 : Int) (h4 : okI a4) : ∃ k, law12_PlanLess k a0 a1 a2 a3 a4 = some true := by
  refine ⟨20000, ?_⟩
  obtain ⟨v, L, e, hp⟩ := law12_Small_eq (k := 20000) a0 a1 (by omega)
  have hv := hp.small (k := 20000) (by omega) (by omega)
  obtain ⟨P, e3, hPl, hP⟩ := law12_Pins_eq hp (k := 20000) (by omega) (by omega) a2
  obtain ⟨R, e5, hR, hRl⟩ := ref15_Plans_eq hp (k := 20000) (by omega) (by omega) (P := P) hPl
  have h4 := hp.l4
  have hR0 : 0 < R.length := by
    obtain ⟨m, hm, _⟩ := mem_aI ((hR _).2 (pinPlan_P hv (hp.inn hP)))
    omega
  unfold law12_PlanLess
  rw [bindS e]
  simp only
  obtain ⟨u0, u1⟩ := um a3 (R.length : Int) (by omega)
  have hw : IntKind.u64.wrap (R.length : Int) = (R.length : Int) := wu_id (by omega) (by omega)
  rw [bindS e3, bindS e5, condN (by omega), gdD (by rw [hw]; omega), hw, bindS (idx_aI u0 u1)]
  have hr := (hR _).1 (aI_mem (l := R) u0 u1)
  generalize aI R ((IntKind.u64.wrap a3).tmod (R.length : Int)) = r at hr
  have hrl := hr.len
  rw [gdD (by simp only [List.length_nil]; omega)]
  by_cases hz : r.length = 0
  · rw [condD (by rw [List.nil_append]; omega), bindS law12_told_eq, cond_true, List.nil_append, bindS (plan_May_eq hv (by omega) (by omega) (by omega) (pins_ok hv hP) (hr.ok hv)), dB_T hr]
  rw [condN (by rw [List.nil_append]; omega)]
  have hw2 : IntKind.u64.wrap ((([] : List Int) ++ r).length : Int) = (r.length : Int) := by rw [List.nil_append]; exact wu_id (by omega) (by omega)
  obtain ⟨x0, x1⟩ := um a4 (r.length : Int) (by omega)
  obtain ⟨w, hwe⟩ := Int.eq_ofNat_of_zero_le x0
  have hwr : wr ((IntKind.u64.wrap a4).tmod (IntKind.u64.wrap ((([] : List Int) ++ r).length : Int))) = (w : Int) := by rw [hw2, hwe]; exact wr_id (by omega) (by omega)
  have hwl : w < r.length := by omega
  have e0 := planLess_l0 (k := 20000) (P := P) hwr (by omega) P.length 20000 0 false (by omega) (by omega)
  have e0 : law12_PlanLess_l0 20000 a4 P r 20000 false 0 = _ := e0
  rw [gdD (by rw [hw2]; omega), bindS e0]
  rw [hwr, List.nil_append, Int.toNat_natCast, Bool.false_or]
  have hA := hp.all
  have hs := hr.free.less hwl
  have hsl : (r.set w (-1)).length = L.length := by rw [List.length_set, hrl]
  have hb := seatN_bd hA (r := r) (n := L.length) (Nat.le_refl _)
  have hmp := hp.ps w (by omega)
  have ho44 : (cond (decide (0 ≤ aI r (w : Int))) (Option.bind (idx L (w : Int)) fun y48 => some y48.Size) (some 0)) = some (if 0 ≤ aI r (w : Int) then (aI L (w : Int)).Size else 0) := by
    by_cases h : 0 ≤ aI r (w : Int)
    · rw [condD h, if_pos h, bindS (idx_aI (by omega) (by omega))]
    · rw [condN h, if_neg h]
  have hdec : decide (seatN L (r.set w (-1)) L.length = wr (seatN L r L.length - if 0 ≤ aI r (w : Int) then (aI L (w : Int)).Size else 0)) = true := by
    rw [wr_id (by split <;> omega) (by split <;> omega), seatN_less hwl, if_pos (by omega)]
    exact decide_eq_true rfl
  rw [bindS (plan_Seated_eq hA (by omega) (by omega) hrl), bindS (idx_aI (by omega) (by omega)), bindS ho44, bindS (idx_aI (by omega) (by omega)), bindS law12_told_eq, cond_true]
  rw [bindS (plan_May_eq hv (by omega) (by omega) (by omega) (pins_ok hv hP) (hs.ok hv)), bindS (plan_May_eq hv (by omega) (by omega) (by simp) (fun i hi => absurd hi (by simp)) (hs.ok hv)), dB_T hs,
    bindS (plan_Seated_eq hA (by omega) (by omega) hsl), hdec, cond_true, cond_true]
  rcases Classical.em (∃ m : Nat, 0 ≤ m ∧ m < P.length ∧ (aI P (m : Int)).Party = (w : Int)) with h | h
  · obtain ⟨m, _, hm, hmw⟩ := h
    have hbad := hr.less_pin hv hwl hm hmw
    have hno : ¬ PlanP v L P (r.set w (-1)) := fun hh => by
      have := wrongV_iff.2 hh
      omega
    rw [dB_T (p := ∃ m : Nat, 0 ≤ m ∧ m < P.length ∧ (aI P (m : Int)).Party = (w : Int)) ⟨m, by omega, hm, hmw⟩, dB_F hno]
    simp only [Bool.not_true, BEq.rfl, cond_true, cond_false]
    rw [bindS (plan_Wrong_eq hv (by omega) (by omega) (by omega) (pins_ok hv hP) (hs.ok hv)), hbad, condD rfl, bindS (ref6_MayPlan_eq hv (by omega) (by omega) (by simp)), dB_T hs]
  · have hyes : PlanP v L P (r.set w (-1)) := hs.pins hP (fun i hi => by
      have hG := hP i hi
      have h1 := hG.lo
      obtain ⟨q, hq⟩ := Int.eq_ofNat_of_zero_le h1
      rw [hq, aI_set hwl, if_neg (fun x => h ⟨i, by omega, hi, by rw [hq, x]⟩), ← hq]
      exact hr.held hi)
    rw [dB_F h, dB_T hyes]
    simp only [Bool.not_false, BEq.rfl, cond_true]
    rw [bindS (ref6_MayPlan_eq hv (by omega) (by omega) (by simp)), dB_T hs]
end
end Go.Px
