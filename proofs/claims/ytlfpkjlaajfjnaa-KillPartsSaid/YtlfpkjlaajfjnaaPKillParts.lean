/- The law KillParts over the plain functions. -/
import Derived.Test.YtlfpkjlaajfjnaaPKillMore
set_option linter.unusedVariables false
set_option linter.unusedSimpArgs false
namespace Go.Px
open Go Go.Sh
theorem kp_l0 (k : Nat) (l : List Int) : ∀ (d n i : Nat) (P : List Pole), i + d = 15 → d < n → PolesP P → P.length ≤ 30 + i → ∃ P', law8_KillParts_l0 k l n P (i : Int) = some P' ∧ PolesP P' ∧ P'.length ≤ 60
  | d, 0, i, P, _, h, _, _ => absurd h (by omega)
  | d, n + 1, i, P, hi, h, hP, hl => by
    rw [law8_KillParts_l0, wr_id (x := (i : Int) + 2) (by omega) (by omega)]
    by_cases c1 : (i : Int) + 2 < (l.length : Int)
    · rw [condD c1]
      by_cases c2 : (i : Int) < 15
      · rw [condD c2]
        obtain ⟨x, _, f1⟩ := some_get (l := l) (i := i) (by omega)
        obtain ⟨y, _, f2⟩ := some_get (l := l) (i := i + 1) (by omega)
        obtain ⟨z, _, f3⟩ := some_get (l := l) (i := i + 2) (by omega)
        obtain ⟨x0, x1⟩ := um x 200 (by omega)
        obtain ⟨y0, y1⟩ := um y 60 (by omega)
        obtain ⟨z0, z1⟩ := um z 40 (by omega)
        rw [bindS f1, wr_id (x := (i : Int) + 1) (by omega) (by omega), bindS (show idx l ((i : Int) + 1) = some y from f2), bindS (show idx l ((i : Int) + 2) = some z from f3), gdD (by simp only [List.length_singleton]; omega),
          wr_id (x := (IntKind.u64.wrap x).tmod 200) (by omega) (by omega), wr_id (x := (IntKind.u64.wrap y).tmod 60) (by omega) (by omega), wr_id (x := (IntKind.u64.wrap z).tmod 40) (by omega) (by omega), wr_id (x := 1 + (IntKind.u64.wrap z).tmod 40) (by omega) (by omega),
          wr_id (x := (i : Int) + 3) (by omega) (by omega)]
        by_cases c3 : i + 3 ≤ 15
        · exact kp_l0 k l (d - 3) n (i + 3) _ (by omega) (by omega) (hP.snoc ⟨by simp only; omega, by simp only; omega, by simp only; omega⟩) (by simp; omega)
        · obtain ⟨n, rfl⟩ : ∃ q, n = q + 1 := ⟨n - 1, by omega⟩
          rw [law8_KillParts_l0, wr_id (x := (i : Int) + 3 + 2) (by omega) (by omega)]
          have hP' := hP.snoc (x := Pole.mk ((IntKind.u64.wrap x).tmod 200) ((IntKind.u64.wrap y).tmod 60) (1 + (IntKind.u64.wrap z).tmod 40)) ⟨by simp only; omega, by simp only; omega, by simp only; omega⟩
          by_cases c4 : (i : Int) + 3 + 2 < (l.length : Int)
          · rw [condD c4, condN (by omega)]
            exact ⟨_, rfl, hP', by simp; omega⟩
          · rw [condN c4]
            exact ⟨_, rfl, hP', by simp; omega⟩
      · rw [condN c2]
        exact ⟨_, rfl, hP, by omega⟩
    · rw [condN c1]
      exact ⟨_, rfl, hP, by omega⟩
/-- A row of numbers that rises, each from -1 up to (not at) m. -/
structure Rise (l : List Int) (m : Int) : Prop where
  up : ∀ (j : Nat) a b, l[j]? = some a → l[j + 1]? = some b → a < b
  low : ∀ (j : Nat) a, l[j]? = some a → -1 ≤ a ∧ a < m
theorem Rise.snoc {l : List Int} {x m : Int} (h : Rise l x) (h0 : -1 ≤ x) (hx : x < m) : Rise (l ++ [x]) m := by
  constructor
  · intro j a b ha hb
    rcases snoc_get ha with ⟨h1, h2⟩ | ⟨h1, _⟩
    · rcases snoc_get hb with ⟨h3, h4⟩ | ⟨h3, rfl⟩
      · exact h.up j a b h2 h4
      · exact (h.low j a h2).2
    · rcases snoc_get hb with ⟨h3, h4⟩ | ⟨h3, _⟩ <;> omega
  · intro j a ha
    rcases snoc_get ha with ⟨h1, h2⟩ | ⟨h1, rfl⟩
    · have := h.low j a h2
      omega
    · exact ⟨h0, hx⟩
theorem Rise.mono {l : List Int} {x m : Int} (h : Rise l x) (hx : x ≤ m) : Rise l m := ⟨h.up, fun j a ha => by have := h.low j a ha; omega⟩
theorem rise_range (l : List Int) (p : Nat → Bool) : ∀ (n : Nat), Rise l 0 → Rise (l ++ ((List.range n).filter p).map (fun j : Nat => (j : Int))) (n : Int)
  | 0, h => by simpa using h
  | n + 1, h => by
    have ih := rise_range l p n h
    rw [List.range_succ, List.filter_append, List.map_append, ← List.append_assoc]
    cases hp : p n
    · rw [show List.filter p [n] = [] by simp [hp], List.map_nil, List.append_nil]
      exact ih.mono (by omega)
    · rw [show List.filter p [n] = [n] by simp [hp], List.map_cons, List.map_nil]
      exact ih.snoc (by omega) (by omega)
theorem killL_rise (v : Venue) (s : Nat) : Rise (killL v s) v.Poles.length := by
  unfold killL
  refine rise_range _ _ _ ?_
  split
  · constructor
    · intro j a b ha hb
      rw [List.getElem?_eq_none (by simp)] at hb
      cases hb
    · intro j a ha
      rcases j with _ | j
      · simp at ha; omega
      · rw [List.getElem?_eq_none (by simp)] at ha
        cases ha
  · constructor
    · intro j a b ha hb
      simp at ha
    · intro j a ha
      simp at ha
theorem filter_range_get (p : Nat → Bool) : ∀ (n i : Nat), i < n → p i = true → ((List.range n).filter p)[((List.range i).filter p).length]? = some i
  | 0, i, h, _ => absurd h (by omega)
  | n + 1, i, h, hp => by
    rw [List.range_succ, List.filter_append]
    rcases Nat.lt_or_ge i n with hl | hl
    · have := filter_range_get p n i hl hp
      rw [List.getElem?_append_left (List.getElem?_eq_some_iff.1 this).1]
      exact this
    · obtain rfl : i = n := by omega
      rw [List.getElem?_append_right (by omega), Nat.sub_self]
      simp [hp]
def cntD (p : Nat → Bool) (i : Nat) : Nat := ((List.range i).filter p).length
theorem cntD_succ (p : Nat → Bool) (i : Nat) : cntD p (i + 1) = cntD p i + (if p i then 1 else 0) := by
  unfold cntD
  rw [List.range_succ, List.filter_append, List.length_append]
  cases h : p i <;> simp [h]
theorem cntD_le (p : Nat → Bool) (i : Nat) : cntD p i ≤ i := by
  unfold cntD
  have := List.length_filter_le p (List.range i)
  rw [List.length_range] at this
  exact this
theorem kp_l4 (k : Nat) (l : List Int) (m : Int) (h : Rise l m) (hl : l.length ≤ 100) : ∀ (d n i : Nat), 1 ≤ i → i + d = max 1 l.length → d < n → law8_KillParts_l4 k l n (i : Int) = some (.go ())
  | d, 0, i, _, _, h => absurd h (by omega)
  | 0, n + 1, i, h0, hi, _ => by
    rw [law8_KillParts_l4, condN (by omega)]
  | d + 1, n + 1, i, h0, hi, hd => by
    obtain ⟨y, e1, e2⟩ := some_get (l := l) (i := i) (by omega)
    obtain ⟨z, f1, f2⟩ := some_get (l := l) (i := i - 1) (by omega)
    have := h.up (i - 1) z y f1 (by rw [show i - 1 + 1 = i by omega]; exact e1)
    rw [law8_KillParts_l4, condD (by omega), bindS e2, wr_pred (by omega) (by omega), bindS f2, condN (by omega), wr_succ (by omega)]
    exact kp_l4 k l m h hl d n (i + 1) (by omega) (by omega) (by omega)
theorem KillParts_true (a0 : List Int) (h0 : okLI a0) (a1 : List Int) (h1 : okLI a1) : ∃ k, law8_KillParts k a0 a1 = some true := by
  refine ⟨2000, ?_⟩
  unfold law8_KillParts
  obtain ⟨v0, e, hv⟩ := law3_Make_eq 2000 a0 30 (by omega) (by omega) (by omega)
  rw [bindS (show law3_Make 2000 a0 30 = some v0 from e)]
  have hn0 := hv.may.n0
  have hn1 := hv.n1
  have hpl := hv.pl
  have hkl := hv.kl
  obtain ⟨P, eP, hP, hPl⟩ := kp_l0 2000 a1 15 2000 0 v0.Poles (by omega) (by omega) hv.may.poles (by omega)
  rw [bindS (show law8_KillParts_l0 2000 a1 2000 v0.Poles 0 = some P from eP)]
  have hM := may_poles hv.may hP (by omega)
  have hS : Small 2000 (Venue.mk v0.Seats v0.Gap v0.Radius v0.Kills P) := ⟨by show v0.Seats.length < 2000; omega, by show v0.Kills.length < 2000; omega, by show P.length < 2000; omega, by omega, by omega⟩
  have hsl : (Venue.mk v0.Seats v0.Gap v0.Radius v0.Kills P).Seats.length ≤ 30 := hn1
  have hpl2 : (Venue.mk v0.Seats v0.Gap v0.Radius v0.Kills P).Poles.length = P.length := rfl
  have hseats : v0.Seats.length = (Venue.mk v0.Seats v0.Gap v0.Radius v0.Kills P).Seats.length := rfl
  have hk := kill_Killed_eq hS
  rw [mayB_iff.2 hM, cond_true] at hk
  rw [bindS (kill_Usable_eq hS), mayB_iff.2 hM, cond_true, bindS hk, condNT (by rw [usL_len])]
  have hL3 : ∀ (d n i : Nat), i + d = v0.Seats.length → d < n → law8_KillParts_l3 2000 P v0 (usL (Venue.mk v0.Seats v0.Gap v0.Radius v0.Kills P)) (deadL (usL (Venue.mk v0.Seats v0.Gap v0.Radius v0.Kills P))) n (cntD (fun i => !((usL (Venue.mk v0.Seats v0.Gap v0.Radius v0.Kills P)).getD i true)) i : Int) (i : Int)
      = some (.go ((deadL (usL (Venue.mk v0.Seats v0.Gap v0.Radius v0.Kills P))).length : Int)) := by
    generalize hv' : Venue.mk v0.Seats v0.Gap v0.Radius v0.Kills P = v at *
    have hul := usL_len v
    intro d
    induction d with
    | zero =>
      intro n i hi hn
      obtain ⟨n, rfl⟩ : ∃ q, n = q + 1 := ⟨n - 1, by omega⟩
      rw [law8_KillParts_l3, condN (by rw [hul]; omega)]
      unfold deadL cntD
      rw [List.length_map, hul, show i = v.Seats.length by omega]
    | succ d ih =>
      intro n i hi hn
      obtain ⟨n, rfl⟩ : ∃ q, n = q + 1 := ⟨n - 1, by omega⟩
      have hil : i < v.Seats.length := by omega
      have hc := cntD_le (fun i => !((usL v).getD i true)) i
      have hsu := cntD_succ (fun i => !((usL v).getD i true)) i
      have hg : (usL v).getD i true = deadB v i := getD_of (usL_get hil)
      have hrec := ih n (i + 1) (by omega) (by omega)
      rw [hsu] at hrec
      simp only [hg] at hrec
      have hif : (cond (!deadB v i) (cond (decide (((deadL (usL v)).length : Int) ≤ (cntD (fun i => !((usL v).getD i true)) i : Int))) (some (Ex.rt false)) (Option.bind (idx (deadL (usL v)) (cntD (fun i => !((usL v).getD i true)) i : Int)) fun y175 => cond (!decide (y175 = (i : Int))) (some (Ex.rt false)) (some (Ex.go (wr ((cntD (fun i => !((usL v).getD i true)) i : Int) + 1)))))) (some (Ex.go (cntD (fun i => !((usL v).getD i true)) i : Int)))) = some (Ex.go (((cntD (fun i => !((usL v).getD i true)) i + (if (!deadB v i) = true then 1 else 0) : Nat) : Int)) : Ex Int Bool) := by
        cases hd : deadB v i
        · have := filter_range_get (fun i => !((usL v).getD i true)) (usL v).length i (by omega) (by simp only [hg, hd]; rfl)
          have hget : (deadL (usL v))[cntD (fun i => !((usL v).getD i true)) i]? = some (i : Int) := by
            unfold deadL cntD
            rw [List.getElem?_map, this]
            rfl
          have hlt := (List.getElem?_eq_some_iff.1 hget).1
          rw [cNF, condN (by omega), bindS (idx_get (by omega) (by rw [Int.toNat_natCast]; exact hget)), condNT rfl, wr_succ (by omega)]
          rfl
        · rw [cNT]
          rfl
      rw [law8_KillParts_l3, condD (by rw [hul]; omega), bindS (usL_idx hil), bindS hif, elim_go, hv', bindS (kill_By_eq hS (i : Int)), condD (by omega), mayB_iff.2 hM, cond_true, Int.toNat_natCast, wr_succ (by omega)]
      have hR := killL_rise v i
      have hkl2 := killL_len v i
      have hl4 : law8_KillParts_l4 2000 (killL v i) 2000 1 = _ := kp_l4 2000 (killL v i) _ hR (by omega) (max 1 (killL v i).length - 1) 2000 1 (by omega) (by omega) (by omega)
      rw [bindS hl4, elim_go]
      by_cases hz : 0 < (killL v i).length
      · obtain ⟨x, g1, g2⟩ := some_get hz
        obtain ⟨y, w1, w2⟩ := some_get (l := killL v i) (i := (killL v i).length - 1) (by omega)
        have hx := hR.low 0 x g1
        have hy := hR.low _ y w1
        rw [condD (by omega), bindS (show idx (killL v i) 0 = some x from g2), condN (by omega), wr_pred hz (by omega), bindS w2, condN (by omega)]
        exact hrec
      · rw [condN (by omega)]
        exact hrec
  have h := hL3 v0.Seats.length 2000 0 (by omega) (by omega)
  have h : law8_KillParts_l3 2000 P v0 _ _ 2000 0 0 = _ := h
  have hdl := deadL_len (usL (Venue.mk v0.Seats v0.Gap v0.Radius v0.Kills P))
  rw [usL_len] at hdl
  rw [bindS h, elim_go, bindS law8_told_eq, condT rfl, condD rfl, bindS hk, bindS (sameInts_refl _ _ (by omega) (by omega))]
end Go.Px
