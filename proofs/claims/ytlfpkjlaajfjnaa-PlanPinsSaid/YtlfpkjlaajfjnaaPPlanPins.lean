/- The laws PlanPins and PlanLess over the plain functions. -/
import Derived.Test.YtlfpkjlaajfjnaaPPlans
set_option linter.unusedVariables false
set_option linter.unusedSimpArgs false
namespace Go.Px
open Go Go.Sh
theorem law12_told_eq : law12_told 20000 = some true := by decide +kernel
section
variable {v : Venue} {L : List Party}
theorem PlanP.free {P : List Pin} {r : List Int} (h : PlanP v L P r) : PlanP v L [] r :=
  ⟨⟨h.inn.1, PinOK_nil, h.inn.2.2⟩, h.len, fun i hi => ⟨fun f hf => (by cases hf), (h.at_ i hi).pl, (h.at_ i hi).ap⟩⟩
theorem PlanP.pins {P : List Pin} {r : List Int} (h : PlanP v L [] r) (hP : PinOK v L P) (hh : ∀ i : Nat, i < P.length → aI r (aI P (i : Int)).Party = (aI P (i : Int)).First) : PlanP v L P r :=
  ⟨⟨h.inn.1, hP, h.inn.2.2⟩, h.len, fun i hi => ⟨fun f hf => by
    obtain ⟨j, h1, h2, h3⟩ := pinAt_some hf
    have := hh j h1
    rw [h2] at this
    rw [this, h3], (h.at_ i hi).pl, (h.at_ i hi).ap⟩⟩
theorem PlanP.held {P : List Pin} {r : List Int} (h : PlanP v L P r) {i : Nat} (hi : i < P.length) : aI r (aI P (i : Int)).Party = (aI P (i : Int)).First := by
  have hG := h.inn.2.1 i hi
  have h1 := hG.lo
  have h2 := hG.hi
  have := (h.at_ (aI P (i : Int)).Party.toNat (by rw [h.len]; omega)).pin (aI P (i : Int)).First
  rw [show (((aI P (i : Int)).Party.toNat : Nat) : Int) = (aI P (i : Int)).Party by omega] at this
  exact this (pinAt_get h.inn.2.1.rise hi)
/-- The plan of the pins alone. -/
def pinPlan (L : List Party) (P : List Pin) : List Int := (List.range L.length).map (fun i : Nat => (pinAt P (i : Int)).getD (-1))
theorem pinPlan_at {P : List Pin} {i : Nat} (h : i < L.length) : aI (pinPlan L P) (i : Int) = (pinAt P (i : Int)).getD (-1) := by
  unfold aI pinPlan
  rw [Int.toNat_natCast, List.getD_eq_getElem?_getD, List.getElem?_map, List.getElem?_range h]
  rfl
theorem pinPlan_P {k : Nat} (hv : Small k v) {P : List Pin} (hI : InOK v L P) : PlanP v L P (pinPlan L P) := by
  have hl : (pinPlan L P).length = L.length := by unfold pinPlan; simp
  have hP := hI.2.1
  have hsome : ∀ i : Nat, i < L.length → ¬ aI (pinPlan L P) (i : Int) = -1 → ∃ j, j < P.length ∧ (aI P (j : Int)).Party = (i : Int) ∧ (aI P (j : Int)).First = aI (pinPlan L P) (i : Int) := fun i hi h => by
    rw [pinPlan_at hi] at h ⊢
    cases hp : pinAt P (i : Int) with
    | none => rw [hp] at h; exact absurd rfl h
    | some f => exact pinAt_some hp
  refine ⟨hI, hl, fun i hi => ⟨fun f hf => ?_, fun h => ?_, fun h j hj hn => ?_⟩⟩
  · rw [pinPlan_at (by omega), hf]; rfl
  · obtain ⟨j, h1, h2, h3⟩ := hsome i (by omega) h
    have := (hP j h1).pl
    rw [h2, h3] at this
    exact this
  · obtain ⟨a, a1, a2, a3⟩ := hsome i (by omega) h
    obtain ⟨b, b1, b2, b3⟩ := hsome j (by omega) hn
    have hba : b < a := by
      rcases Nat.lt_trichotomy b a with h | h | h
      · exact h
      · rw [h] at b2; omega
      · have := hP.rise a b h b1; omega
    have := (hP a a1).ap b hba
    rw [a2, a3, b2, b3] at this
    exact this
theorem planPins_l3 {k : Nat} {P : List Pin} {R : List (List Int)} {j : Nat} (hj : j < R.length) (hi : ∀ i : Nat, i < P.length → 0 ≤ (aI P (i : Int)).Party ∧ (aI P (i : Int)).Party < (aI R (j : Int)).length) (hl : P.length ≤ 1000) : ∀ (d n i : Nat) (b : Bool), i + d = P.length → d < n →
    law12_PlanPins_l3 k P R (j : Int) n b (i : Int) = some (b && dB (∀ m : Nat, i ≤ m → m < P.length → aI (aI R (j : Int)) (aI P (m : Int)).Party = (aI P (m : Int)).First))
  | d, 0, i, b, _, h => absurd h (by omega)
  | 0, n + 1, i, b, h, _ => by
    rw [law12_PlanPins_l3, condN (by omega), dB_T (fun m h1 h2 => by omega), Bool.and_true]
  | d + 1, n + 1, i, b, h, hd => by
    rw [law12_PlanPins_l3, condD (by omega), wr_succ (by omega)]
    cases b
    · rw [cond_false, planPins_l3 hj hi hl d n (i + 1) _ (by omega) (by omega), Bool.false_and, Bool.false_and]
    · have hh := hi i (by omega)
      rw [cond_true, bindS (idx_aI (by omega) (by omega)), bindS (idx_aI (by omega) (by omega)), bindS (idx_aI hh.1 hh.2), bindS (idx_aI (by omega) (by omega)), planPins_l3 hj hi hl d n (i + 1) _ (by omega) (by omega), Bool.true_and]
      congr 1
      by_cases h1 : aI (aI R (j : Int)) (aI P (i : Int)).Party = (aI P (i : Int)).First
      · rw [decide_eq_true h1, Bool.true_and, Bool.eq_iff_iff, dB_iff, dB_iff]
        constructor
        · intro h m a c
          rcases Nat.lt_or_ge i m with x | x
          · exact h m x c
          · rw [show m = i by omega]; exact h1
        · intro h m a c; exact h m (by omega) c
      · rw [decide_eq_false h1, Bool.false_and, dB_F (fun h => h1 (h i (by omega) (by omega)))]
theorem PlanPins_true (a0 : List Int) (h0 : okLI a0) (a1 : List Int) (h1 : okLI a1) (a2 : Int) (h2 : okI a2) : ∃ k, law12_PlanPins k a0 a1 a2 = some true := by
  refine ⟨20000, ?_⟩
  obtain ⟨v, L, e, hp⟩ := law12_Small_eq (k := 20000) a0 a1 (by omega)
  have hv := hp.small (k := 20000) (by omega) (by omega)
  obtain ⟨P, e3, hPl, hP⟩ := law12_Pins_eq hp (k := 20000) (by omega) (by omega) a2
  obtain ⟨R, e5, hR, hRl⟩ := ref15_Plans_eq hp (k := 20000) (by omega) (by omega) (P := []) (by simp)
  have h4 := hp.l4
  unfold law12_PlanPins
  rw [bindS e]
  simp only
  rw [bindS e3, bindS e5]
  have hheld : ∀ j : Nat, j < R.length → PlanP v L [] (aI R (j : Int)) := fun j hj => (hR _).1 (aI_mem (by omega) (by omega))
  have hiff : ∀ j : Nat, j < R.length → (PlanP v L P (aI R (j : Int)) ↔ ∀ m : Nat, 0 ≤ m → m < P.length → aI (aI R (j : Int)) (aI P (m : Int)).Party = (aI P (m : Int)).First) := fun j hj =>
    ⟨fun h m _ hm => h.held hm, fun h => (hheld j hj).pins hP (fun i hi => h i (by omega) hi)⟩
  have loop : ∀ (d n j c : Nat), j + d = R.length → d < n → c ≤ j → ∃ c', law12_PlanPins_l2 20000 (v, L) P R n (c : Int) (j : Int) = some (.go ((c' : Nat) : Int)) ∧ c ≤ c' ∧ c' ≤ R.length ∧ ((∃ m, j ≤ m ∧ m < R.length ∧ PlanP v L P (aI R (m : Int))) → c < c') := by
    intro d
    induction d with
    | zero =>
      intro n j c hj hd hc
      cases n with
      | zero => omega
      | succ n =>
        rw [law12_PlanPins_l2, condN (by omega)]
        exact ⟨c, rfl, Nat.le_refl _, by omega, fun ⟨m, h1, h2, _⟩ => by omega⟩
    | succ d ih =>
      intro n j c hj hd hc
      cases n with
      | zero => omega
      | succ n =>
        have e3 := planPins_l3 (k := 20000) (P := P) (R := R) (j := j) (by omega) (fun i hi => ⟨(hP i hi).lo, by rw [(hheld j (by omega)).len]; exact (hP i hi).hi⟩) (by omega) P.length 20000 0 true (by omega) (by omega)
        have e3 : law12_PlanPins_l3 20000 P R (j : Int) 20000 true 0 = _ := e3
        rw [law12_PlanPins_l2, condD (by omega), bindS e3, bindS (idx_aI (by omega) (by omega))]
        simp only
        rw [bindS (plan_May_eq hv (by omega) (by omega) (by omega) (pins_ok hv hP) ((hheld j (by omega)).ok hv)), Bool.true_and, show dB (PlanP v L P (aI R (j : Int))) = dB (∀ m : Nat, 0 ≤ m → m < P.length → aI (aI R (j : Int)) (aI P (m : Int)).Party = (aI P (m : Int)).First) by rw [Bool.eq_iff_iff, dB_iff, dB_iff]; exact hiff j (by omega), beq_self_eq_true, cNT, bindS (idx_aI (by omega) (by omega)),
          bindS (plan_May_eq hv (by omega) (by omega) (by simp) (fun i hi => absurd hi (by simp)) ((hheld j (by omega)).ok hv)), dB_T (hheld j (by omega)), cNT, wr_succ (i := j) (by omega), wr_succ (i := c) (by omega)]
        rcases Classical.em (PlanP v L P (aI R (j : Int))) with h | h
        · rw [dB_T ((hiff j (by omega)).1 h), cond_true]
          obtain ⟨c', a, b, x, y⟩ := ih n (j + 1) (c + 1) (by omega) (by omega) (by omega)
          exact ⟨c', a, by omega, x, fun _ => by omega⟩
        · rw [dB_F (fun x => h ((hiff j (by omega)).2 x)), cond_false]
          obtain ⟨c', a, b, x, y⟩ := ih n (j + 1) c (by omega) (by omega) (by omega)
          refine ⟨c', a, b, x, fun ⟨m, h1, h2, h3⟩ => y ⟨m, ?_, h2, h3⟩⟩
          rcases Nat.lt_or_ge j m with q | q
          · exact q
          · exact absurd (by rw [show j = m by omega]; exact h3) h
  obtain ⟨c', a, b, x, y⟩ := loop R.length 20000 0 0 (by omega) (by omega) (by omega)
  have a : law12_PlanPins_l2 20000 (v, L) P R 20000 0 0 = some (.go (c' : Int)) := a
  have hpp := pinPlan_P hv (hp.inn hP)
  obtain ⟨m, hm, em⟩ := mem_aI ((hR _).2 hpp.free)
  have := y ⟨m, by omega, hm, by rw [em]; exact hpp⟩
  rw [bindS a, elim_go, bindS law12_told_eq, cond_true, condD (by omega), bindS (plan_Pins_eq hv (by omega) (by omega) (by omega) (pins_ok hv hP)), dB_T (hp.inn hP)]
end
end Go.Px
