/- The plain law, in parts: Plans, PlanPins, Owners, PlanOwners. -/
import Derived.Test.YtlfpkjlaajfjnaaPPlanOwners0
set_option linter.unusedVariables false
set_option linter.unusedSimpArgs false
namespace Go.Px
open Go Go.Sh
theorem aI_lt {α : Type} [Inhabited α] {l m : List α} {i : Nat} (h : i < l.length) : aI (l ++ m) (i : Int) = aI l (i : Int) := by
  unfold aI
  rw [Int.toNat_natCast, List.getD_eq_getElem?_getD, List.getD_eq_getElem?_getD, List.getElem?_append_left h]
theorem aI_last {α : Type} [Inhabited α] {l : List α} {x : α} {i : Nat} (h : i = l.length) : aI (l ++ [x]) (i : Int) = x := by
  unfold aI
  rw [Int.toNat_natCast, List.getD_eq_getElem?_getD, h, List.getElem?_append_right (Nat.le_refl _), Nat.sub_self]
  rfl
theorem aI_set {α : Type} [Inhabited α] {l : List α} {i j : Nat} {x : α} (h : i < l.length) : aI (l.set i x) (j : Int) = if j = i then x else aI l (j : Int) := by
  unfold aI
  rw [Int.toNat_natCast, List.getD_eq_getElem?_getD, List.getD_eq_getElem?_getD]
  split
  · rename_i hj
    rw [hj, List.getElem?_set_self h]
    rfl
  · rename_i hj
    rw [List.getElem?_set_ne (fun e => hj e.symm)]
theorem aI_ext {α : Type} [Inhabited α] {l m : List α} (hl : l.length = m.length) (h : ∀ i : Nat, i < l.length → aI l (i : Int) = aI m (i : Int)) : l = m := by
  refine List.ext_getElem hl fun i h1 h2 => ?_
  have := h i h1
  unfold aI at this
  rw [Int.toNat_natCast, List.getD_eq_getElem?_getD, List.getD_eq_getElem?_getD, List.getElem?_eq_getElem h1, List.getElem?_eq_getElem h2] at this
  exact this
/-- A small problem. -/
structure Prob (v : Venue) (L : List Party) : Prop where
  may : MayV v
  n1 : v.Seats.length ≤ 9
  kl : v.Kills.length ≤ 9
  pl : v.Poles.length ≤ 9
  rad : InP v.Radius 0 24
  l4 : L.length ≤ 4
  ps : ∀ i : Nat, i < L.length → MayP (aI L (i : Int)) ∧ (aI L (i : Int)).Size ≤ 3
theorem Prob.all {v : Venue} {L : List Party} (h : Prob v L) : AllMay L := ⟨by have := h.l4; omega, fun i hi => (h.ps i hi).1⟩
theorem Prob.small {v : Venue} {L : List Party} (h : Prob v L) {k : Nat} (h1 : 9 < k) (h2 : k ≤ 4294967290) : Small k v := ⟨by have := h.n1; omega, by have := h.kl; omega, by have := h.pl; omega, h2, by omega⟩
theorem Prob.inn {v : Venue} {L : List Party} (h : Prob v L) {P : List Pin} (hP : PinOK v L P) : InOK v L P := ⟨h.may, hP, h.all⟩
theorem small_l0 (k : Nat) (l : List Int) : ∀ (d n i : Nat) (w : List Party), i + d = 4 → d < n → w.length = i → (∀ j : Nat, j < w.length → MayP (aI w (j : Int)) ∧ (aI w (j : Int)).Size ≤ 3) → ∃ o, law12_Small_l0 k l n w (i : Int) = some o ∧ o.length ≤ 4 ∧ ∀ j : Nat, j < o.length → MayP (aI o (j : Int)) ∧ (aI o (j : Int)).Size ≤ 3
  | d, 0, i, w, _, h, _, _ => absurd h (by omega)
  | 0, n + 1, i, w, hi, _, hw, hp => by
    rw [law12_Small_l0]
    by_cases h : (i : Int) < (l.length : Int)
    · rw [condD h, condN (by omega)]
      exact ⟨w, rfl, by omega, hp⟩
    · rw [condN h]
      exact ⟨w, rfl, by omega, hp⟩
  | d + 1, n + 1, i, w, hi, hd, hw, hp => by
    rw [law12_Small_l0]
    by_cases h : (i : Int) < (l.length : Int)
    · obtain ⟨u0, u1⟩ := um (aI l (i : Int)) 3 (by omega)
      rw [condD h, condD (by omega), bindS (idx_aI (by omega) h), wr_id (x := (IntKind.u64.wrap (aI l (i : Int))).tmod 3) (by omega) (by omega), wr_id (x := 1 + (IntKind.u64.wrap (aI l (i : Int))).tmod 3) (by omega) (by omega), wr_succ (by omega)]
      generalize (IntKind.u64.wrap (aI l (i : Int))).tmod 3 = q at u0 u1
      generalize ((IntKind.u64.wrap ((IntKind.u64.wrap (aI l (i : Int))).tdiv 3)).tmod 4) = q2
      have hgo : ∀ p : Party, MayP p ∧ p.Size ≤ 3 → ∃ o, (gd (decide (w.length + ([p]).length ≤ 4294967296)) (law12_Small_l0 k l n (w ++ [p]) ((i + 1 : Nat) : Int))) = some o ∧ o.length ≤ 4 ∧ ∀ j : Nat, j < o.length → MayP (aI o (j : Int)) ∧ (aI o (j : Int)).Size ≤ 3 := fun p hpp => by
        rw [gdD (by simp only [List.length_singleton]; omega)]
        refine small_l0 k l d n (i + 1) (w ++ [p]) (by omega) (by omega) (by simp [hw]) fun j hj => ?_
        rw [List.length_append, List.length_singleton] at hj
        by_cases hjw : j < w.length
        · rw [aI_lt hjw]; exact hp j hjw
        · rw [aI_last (by omega)]; exact hpp
      by_cases h2 : q2 = 0
      · rw [condD h2, bindS rfl]
        by_cases h3 : 1 < 1 + q
        · rw [condD h3]
          exact hgo _ ⟨⟨by simp only; omega, by simp only; omega, by simp only; omega, by simp only; omega, by simp only; omega⟩, by simp only; omega⟩
        · rw [condN h3]
          exact hgo _ ⟨⟨by simp only; omega, by simp only; omega, by simp only; omega, by simp only; omega, by simp only; omega⟩, by simp only; omega⟩
      · rw [condN h2, bindS rfl, cond_false]
        exact hgo _ ⟨⟨by simp only; omega, by simp only; omega, by simp only; omega, by simp only; omega, by simp only; omega⟩, by simp only; omega⟩
    · rw [condN h]
      exact ⟨w, rfl, by omega, hp⟩
theorem law12_Small_eq {k : Nat} (l m : List Int) (hk : 100 ≤ k) : ∃ v L, law12_Small k l m = some (v, L) ∧ Prob v L := by
  obtain ⟨v, e, hv⟩ := law3_Make_eq k l 9 (by omega) (by omega) (by omega)
  have e : law3_Make k l 9 = some v := e
  obtain ⟨L, eL, hL1, hL2⟩ := small_l0 k m 4 k 0 [] (by omega) (by omega) rfl (fun j hj => absurd hj (by simp))
  have eL : law12_Small_l0 k m k [] 0 = some L := eL
  have h6 : ∃ b, (cond (decide (0 < (m.length : Int))) (Option.bind (idx m 0) fun y10 => some (!decide ((y10.tmod 3) = 0))) (some false)) = some b := by
    by_cases h : 0 < (m.length : Int)
    · rw [condD h, bindS (idx_aI (by omega) h)]; exact ⟨_, rfl⟩
    · rw [condN h]; exact ⟨_, rfl⟩
  obtain ⟨b, eb⟩ := h6
  have h13 : ∃ r, cond b (some (v.Radius.tmod 12)) (some v.Radius) = some r ∧ InP r 0 24 := by
    have hr := hv.rad
    cases b
    · exact ⟨_, rfl, hr⟩
    · refine ⟨_, rfl, Int.tmod_nonneg _ hr.1, ?_⟩
      have := Int.tmod_lt_of_pos v.Radius (b := 12) (by omega)
      omega
  obtain ⟨r, er, hr⟩ := h13
  unfold law12_Small
  rw [bindS e, bindS eb, bindS er, bindS eL]
  have hM := hv.may
  exact ⟨_, _, rfl, ⟨hM.seats, hM.n0, hM.n1, hM.gap, by show InP r 0 1048576; omega, hM.kills, hM.k1, hM.poles, hM.p1⟩, hv.n1, hv.kl, hv.pl, hr, hL1, hL2⟩
theorem PlanP.ok {k : Nat} {v : Venue} {L : List Party} {P : List Pin} {r : List Int} (hv : Small k v) (h : PlanP v L P r) : ∀ i : Nat, i < r.length → okI (aI r (i : Int)) := fun i hi => by
  by_cases h1 : aI r (i : Int) = -1
  · rw [h1]; exact ⟨by omega, by omega⟩
  · obtain ⟨_, h1, h2, h3⟩ := plB_in hv ((h.at_ i hi).pl h1)
    have := hv.hs
    have := hv.b
    exact ⟨by omega, by omega⟩
/- all plans -/
theorem allV_mem {k : Nat} {v : Venue} (hv : Small k v) {p : Party} {s : Int} : s ∈ allV v p ↔ plB v p s = true := by
  unfold allV plB
  cases mayB v
  · simp
  · rw [cond_true, Bool.true_and]
    unfold allL
    rw [List.mem_map]
    constructor
    · rintro ⟨a, h, rfl⟩
      exact (List.mem_filter.1 h).2
    · intro h
      have hN := hv.hs
      have hb := hv.b
      obtain ⟨h1, h2, h3, _⟩ := placeB_pos (by omega) h
      refine ⟨s.toNat, List.mem_filter.2 ⟨List.mem_range.2 (by omega), ?_⟩, by omega⟩
      rw [show ((s.toNat : Nat) : Int) = s by omega]
      exact h
noncomputable def nextP (v : Venue) (L : List Party) (i : Nat) (r : List Int) : List (List Int) := (allV v (aI L (i : Int)) ++ [-1]).map (fun s => r ++ [s])
noncomputable def allP (v : Venue) (L : List Party) : Nat → List (List Int)
  | 0 => [[]]
  | i + 1 => (allP v L i).flatMap (nextP v L i)
theorem nextP_len {v : Venue} {L : List Party} {i : Nat} {r : List Int} : (nextP v L i r).length ≤ v.Seats.length + 1 := by
  unfold nextP
  rw [List.length_map, List.length_append, List.length_singleton]
  have := allV_len v (aI L (i : Int))
  omega
theorem flat_len {α : Type} {f : α → List α} {c : Nat} : ∀ {l : List α}, (∀ x, x ∈ l → (f x).length ≤ c) → (l.flatMap f).length ≤ c * l.length
  | [], _ => by simp
  | x :: l, h => by
    rw [List.flatMap_cons, List.length_append, List.length_cons, Nat.mul_succ]
    have := h x (by simp)
    have := flat_len (l := l) (fun y hy => h y (by simp [hy]))
    omega
theorem allP_len {v : Venue} {L : List Party} (hn : v.Seats.length ≤ 9) : ∀ i : Nat, (allP v L i).length ≤ 10 ^ i
  | 0 => by simp [allP]
  | i + 1 => by
    have := allP_len hn (L := L) i
    have h2 := flat_len (f := nextP v L i) (c := 10) (l := allP v L i) (fun x _ => by have := nextP_len (v := v) (L := L) (i := i) (r := x); omega)
    rw [allP, Nat.pow_succ]
    omega
theorem mem_allP {v : Venue} {L : List Party} : ∀ {i : Nat} {r : List Int}, r ∈ allP v L i ↔ r.length = i ∧ ∀ j : Nat, j < i → aI r (j : Int) = -1 ∨ aI r (j : Int) ∈ allV v (aI L (j : Int))
  | 0, r => by
    rw [allP, List.mem_singleton]
    constructor
    · rintro rfl; exact ⟨rfl, fun j hj => absurd hj (by omega)⟩
    · rintro ⟨h, _⟩; exact List.length_eq_zero_iff.1 h
  | i + 1, r => by
    rw [allP, List.mem_flatMap]
    constructor
    · rintro ⟨r0, h0, h1⟩
      obtain ⟨a, b⟩ := mem_allP.1 h0
      unfold nextP at h1
      obtain ⟨s, hs, rfl⟩ := List.mem_map.1 h1
      refine ⟨by rw [List.length_append, List.length_singleton, a], fun j hj => ?_⟩
      by_cases h : j < i
      · rw [aI_lt (by omega)]; exact b j h
      · obtain rfl : j = i := by omega
        rw [aI_last a.symm]
        rcases List.mem_append.1 hs with h | h
        · exact .inr h
        · exact .inl (List.mem_singleton.1 h)
    · rintro ⟨h1, h2⟩
      have hr : r = r.take i ++ [aI r (i : Int)] := by
        refine aI_ext (by rw [List.length_append, List.length_take, List.length_singleton]; omega) fun j hj => ?_
        by_cases h : j < i
        · rw [aI_lt (by rw [List.length_take]; omega)]
          unfold aI
          rw [Int.toNat_natCast, List.getD_eq_getElem?_getD, List.getD_eq_getElem?_getD, List.getElem?_take_of_lt h]
        · obtain rfl : j = i := by omega
          rw [aI_last (by rw [List.length_take]; omega)]
      refine ⟨r.take i, mem_allP.2 ⟨by rw [List.length_take]; omega, fun j hj => ?_⟩, ?_⟩
      · have := h2 j (by omega)
        have e : aI (r.take i) (j : Int) = aI r (j : Int) := by
          unfold aI
          rw [Int.toNat_natCast, List.getD_eq_getElem?_getD, List.getD_eq_getElem?_getD, List.getElem?_take_of_lt hj]
        rw [e]
        exact this
      · unfold nextP
        refine List.mem_map.2 ⟨aI r (i : Int), ?_, hr.symm⟩
        rcases h2 i (by omega) with h | h
        · rw [h]; simp
        · exact List.mem_append_left _ h
theorem PlanP.mem {k : Nat} {v : Venue} {L : List Party} {P : List Pin} {r : List Int} (hv : Small k v) (h : PlanP v L P r) : r ∈ allP v L L.length := by
  refine mem_allP.2 ⟨h.len, fun j hj => ?_⟩
  rw [allV_mem hv]
  by_cases h1 : aI r (j : Int) = -1
  · exact .inl h1
  · exact .inr ((h.at_ j (by rw [h.len]; exact hj)).pl h1)
theorem range_map_aI {α β : Type} [Inhabited α] {l : List α} {f : α → β} : (List.range l.length).map (fun j : Nat => f (aI l (j : Int))) = l.map f := by
  refine List.ext_getElem (by simp) fun i h1 h2 => ?_
  simp at h1 h2 ⊢
  unfold aI
  rw [Int.toNat_natCast, List.getD_eq_getElem?_getD, List.getElem?_eq_getElem h1]
  rfl
theorem filter_yes {α : Type} (l : List α) : l.filter (fun _ => true) = l := List.filter_eq_self.2 (fun _ _ => rfl)
theorem plans_l12 {k : Nat} {M : List Int} {A : List (List Int)} {j : Nat} (hj : j < A.length) (hr : (aI A (j : Int)).length ≤ 1000) (hM : M.length ≤ 10000) (hk : 20000 ≤ k) (w : List (List Int)) (hw : w.length ≤ 4294000000) :
    ref15_Plans_l12 k M A (j : Int) k w 0 = some (w ++ (M ++ [-1]).map (fun s => aI A (j : Int) ++ [s])) := by
  have hl : (([] ++ M) ++ ([(-1)] : List Int)).length = M.length + 1 := by simp
  have e := gather0 (f := fun n a i => ref15_Plans_l12 k M A (j : Int) n a i) (len := M.length + 1) (c := 4294000000) (fun _ => true) (fun s : Nat => aI A (j : Int) ++ [aI (M ++ [-1]) (s : Int)])
    (fun n i w hi hw => by
      show ref15_Plans_l12 k M A (j : Int) (n + 1) w (i : Int) = ref15_Plans_l12 k M A (j : Int) n _ _
      rw [ref15_Plans_l12, condD (by rw [hl]; omega), bindS (idx_aI (by omega) (by omega)), gdD (by simp only [List.length_nil]; omega), bindS (idx_aI (by omega) (by rw [hl]; omega)), List.nil_append, List.nil_append, gdD (by simp only [List.length_singleton]; omega), gdD (by simp only [List.length_singleton]; omega), wr_succ (by omega), if_pos rfl])
    (fun n w => by show ref15_Plans_l12 k M A (j : Int) (n + 1) w _ = _; rw [ref15_Plans_l12, condN (by rw [hl]; omega)])
    (k := k) (by omega) w hw
  have e : ref15_Plans_l12 k M A (j : Int) k w 0 = _ := e
  rw [e, filter_yes]
  have h := range_map_aI (l := M ++ [-1]) (f := fun s => aI A (j : Int) ++ [s])
  rw [List.length_append, List.length_singleton] at h
  rw [h]
theorem drop_aI {α : Type} [Inhabited α] {l : List α} {i : Nat} (h : i < l.length) : l.drop i = aI l (i : Int) :: l.drop (i + 1) := by
  unfold aI
  rw [Int.toNat_natCast, List.getD_eq_getElem?_getD, List.getElem?_eq_getElem h]
  exact List.drop_eq_getElem_cons h
section
variable {k : Nat} {v : Venue} {L : List Party}
theorem plans_l11 (hp : Prob v L) (hk : 20000 ≤ k) (hb : k ≤ 4294967290) {i : Nat} (hi : i < L.length) {A : List (List Int)} (hA : A.length ≤ 10000) (hr : ∀ r, r ∈ A → r.length ≤ 1000) : ∀ (d n j : Nat) (w : List (List Int)), j + d = A.length → d < n → w.length ≤ 10 * j →
    ref15_Plans_l11 k v L A (i : Int) n w (j : Int) = some (w ++ (A.drop j).flatMap (nextP v L i))
  | d, 0, j, w, _, h, _ => absurd h (by omega)
  | 0, n + 1, j, w, hj, _, hw => by
    rw [ref15_Plans_l11, condN (by omega), List.drop_eq_nil_of_le (by omega)]
    simp
  | d + 1, n + 1, j, w, hj, hd, hw => by
    have hv := hp.small (k := k) (by omega) hb
    have hal := allV_len v (aI L (i : Int))
    have hn := hp.n1
    have hnl := nextP_len (v := v) (L := L) (i := i) (r := aI A (j : Int))
    rw [ref15_Plans_l11, condD (by omega), bindS (idx_aI (by omega) (by omega)), bindS (ref6_AllPlaces_eq hv (by omega) _), gdD (by simp only [List.length_nil]; omega), gdD (by simp only [List.nil_append, List.length_singleton]; omega), bindS (plans_l12 (by omega) (hr _ (aI_mem (by omega) (by omega))) (by omega) hk w (by omega)), wr_succ (by omega)]
    have h := plans_l11 hp hk hb hi hA hr d n (j + 1) (w ++ nextP v L i (aI A (j : Int))) (by omega) (by omega) (by rw [List.length_append]; omega)
    rw [drop_aI (l := A) (i := j) (by omega), List.flatMap_cons, ← List.append_assoc]
    exact h
theorem plans_l8 (hp : Prob v L) (hk : 20000 ≤ k) (hb : k ≤ 4294967290) : ∀ (d n i : Nat), i + d = L.length → d < n → ref15_Plans_l8 k v L n (allP v L i) (i : Int) = some (allP v L L.length)
  | d, 0, i, _, h => absurd h (by omega)
  | 0, n + 1, i, hi, _ => by
    rw [ref15_Plans_l8, condN (by omega), show i = L.length by omega]
  | d + 1, n + 1, i, hi, hd => by
    have h4 := hp.l4
    have hA := allP_len hp.n1 (L := L) i
    have hA2 : (10 : Nat) ^ i ≤ 10 ^ 4 := Nat.pow_le_pow_right (by omega) (by omega)
    have e := plans_l11 hp hk hb (i := i) (by omega) (A := allP v L i) (by omega) (fun r hr => by rw [(mem_allP.1 hr).1]; omega) (allP v L i).length k 0 [] (by omega) (by omega) (by simp)
    have e : ref15_Plans_l11 k v L (allP v L i) (i : Int) k [] 0 = _ := e
    rw [ref15_Plans_l8, condD (by omega), bindS e, wr_succ (by omega), List.drop_zero, List.nil_append]
    exact plans_l8 hp hk hb d n (i + 1) (by omega) (by omega)
theorem ref15_Plans_eq (hp : Prob v L) (hk : 20000 ≤ k) (hb : k ≤ 4294967290) {P : List Pin} (hP : P.length ≤ 4) : ∃ R, ref15_Plans k v L P = some R ∧ (∀ r, r ∈ R ↔ PlanP v L P r) ∧ R.length ≤ 10000 := by
  have h4 := hp.l4
  have hv := hp.small (k := k) (by omega) hb
  unfold ref15_Plans
  rw [bindS (ref6_MayPins_eq hv (by omega) (by omega) (by omega))]
  rcases Classical.em (InOK v L P) with h | h
  · have e := plans_l8 hp hk hb L.length k 0 (by omega) (by omega)
    have e : ref15_Plans_l8 k v L k [[]] 0 = _ := e
    have hA := allP_len hp.n1 (L := L) L.length
    have hA2 : (10 : Nat) ^ L.length ≤ 10 ^ 4 := Nat.pow_le_pow_right (by omega) (by omega)
    rw [dB_T h, cNT, bindS e]
    generalize hAd : allP v L L.length = A at hA
    have e2 := gather0 (f := fun n a i => ref15_Plans_l13 k v L P A n a i) (len := A.length) (c := 0) (fun j : Nat => dB (PlanP v L P (aI A (j : Int)))) (fun j : Nat => aI A (j : Int))
      (fun n i w hi hw => by
        show ref15_Plans_l13 k v L P A (n + 1) w (i : Int) = ref15_Plans_l13 k v L P A n _ _
        rw [ref15_Plans_l13, condD (by omega), bindS (idx_aI (by omega) (by omega)), bindS (ref6_MayPlan_eq hv (by omega) (by omega) (by omega)), wr_succ (by omega)]
        cases dB (PlanP v L P (aI A (i : Int)))
        · rw [cond_false, if_neg (by simp)]
        · rw [cond_true, bindS (idx_aI (by omega) (by omega)), gdD (by simp only [List.length_singleton]; omega), if_pos rfl])
      (fun n w => by show ref15_Plans_l13 k v L P A (n + 1) w _ = _; rw [ref15_Plans_l13, condN (by omega)])
      (k := k) (by omega) [] (by simp)
    have e2 : ref15_Plans_l13 k v L P A k [] 0 = _ := e2
    rw [bindS e2, List.nil_append]
    refine ⟨_, rfl, fun r => ?_, ?_⟩
    · rw [List.mem_map]
      constructor
      · rintro ⟨j, hj, rfl⟩
        exact dB_iff.1 (List.mem_filter.1 hj).2
      · intro hr
        have hm := hr.mem hv
        rw [hAd] at hm
        obtain ⟨j, hj, e⟩ := mem_aI hm
        exact ⟨j, List.mem_filter.2 ⟨List.mem_range.2 hj, by rw [e]; exact dB_T hr⟩, e⟩
    · rw [List.length_map]
      have := List.length_filter_le (fun j : Nat => dB (PlanP v L P (aI A (j : Int)))) (List.range A.length)
      rw [List.length_range] at this
      omega
  · rw [dB_F h, cNF]
    refine ⟨[], rfl, fun r => ?_, by simp⟩
    constructor
    · intro hr; cases hr
    · intro hr; exact absurd hr.inn h
/- persons -/
def seatN (L : List Party) (r : List Int) : Nat → Int
  | 0 => 0
  | n + 1 => seatN L r n + if 0 ≤ aI r (n : Int) then (aI L (n : Int)).Size else 0
theorem seatN_bd (hA : AllMay L) {r : List Int} : ∀ {n : Nat}, n ≤ L.length → 0 ≤ seatN L r n ∧ seatN L r n ≤ 8 * n
  | 0, _ => by rw [seatN]; omega
  | n + 1, h => by
    have := seatN_bd hA (r := r) (n := n) (by omega)
    have := hA.2 n (by omega)
    rw [seatN]
    split <;> omega
theorem plan_Seated_l0_eq (hA : AllMay L) {r : List Int} (hr : r.length ≤ L.length) : ∀ (d n i : Nat), i + d = r.length → d < n → plan_Seated_l0 k L r n (seatN L r i) (i : Int) = some (seatN L r r.length)
  | d, 0, i, _, h => absurd h (by omega)
  | 0, n + 1, i, hi, _ => by
    rw [plan_Seated_l0, condN (by omega), show i = r.length by omega]
  | d + 1, n + 1, i, hi, hd => by
    have h1 := hA.1
    have h2 := hA.2 i (by omega)
    have h3 := seatN_bd hA (r := r) (n := i) (by omega)
    have ih := plan_Seated_l0_eq hA hr d n (i + 1) (by omega) (by omega)
    rw [plan_Seated_l0, condD (by omega), bindS (idx_aI (by omega) (by omega)), wr_succ (by omega)]
    rw [seatN] at ih
    by_cases h : 0 ≤ aI r (i : Int)
    · rw [if_pos h] at ih
      rw [condD h, bindS (idx_aI (by omega) (by omega)), wr_id (by omega) (by omega), ih]
    · rw [if_neg h, Int.add_zero] at ih
      rw [condN h, ih]
theorem plan_Seated_eq (hA : AllMay L) (hk : 1000 < k) (hb : k ≤ 4294967290) {r : List Int} (hr : r.length = L.length) : plan_Seated k L r = some (seatN L r L.length) := by
  have h1 := hA.1
  unfold plan_Seated
  rw [condNT (by omega), bindS (party_All_eq (by omega) hb), dB_T hA, bindS rfl, cNT]
  have e := plan_Seated_l0_eq (k := k) hA (r := r) (by omega) r.length k 0 (by omega) (by omega)
  have e : plan_Seated_l0 k L r k 0 0 = _ := e
  rw [bindS e, hr]
end
end Go.Px

set_option linter.unusedVariables false
set_option linter.unusedSimpArgs false
namespace Go.Px
open Go Go.Sh
theorem law12_told_eq : law12_told 20000 = some true := by decide +kernel
section
variable {v : Venue} {L : List Party}
theorem PlanP.pins {P : List Pin} {r : List Int} (h : PlanP v L [] r) (hP : PinOK v L P) (hh : ∀ i : Nat, i < P.length → aI r (aI P (i : Int)).Party = (aI P (i : Int)).First) : PlanP v L P r :=
  ⟨⟨h.inn.1, hP, h.inn.2.2⟩, h.len, fun i hi => ⟨fun f hf => by
    obtain ⟨j, h1, h2, h3⟩ := pinAt_some hf
    have := hh j h1
    rw [h2] at this
    rw [this, h3], (h.at_ i hi).pl, (h.at_ i hi).ap⟩⟩
theorem PlanP.held {P : List Pin} {r : List Int} (h : PlanP v L P r) {i : Nat} (hi : i < P.length) : aI r (aI P (i : Int)).Party = (aI P (i : Int)).First := by
  have hG := h.inn.2.1 i hi
  have h1 := hG.lo
  have h2 := hG.hi
  have := (h.at_ (aI P (i : Int)).Party.toNat (by rw [h.len]; omega)).pin (aI P (i : Int)).First
  rw [show (((aI P (i : Int)).Party.toNat : Nat) : Int) = (aI P (i : Int)).Party by omega] at this
  exact this (pinAt_get h.inn.2.1.rise hi)
/-- The plan of the pins alone. -/
def pinPlan (L : List Party) (P : List Pin) : List Int := (List.range L.length).map (fun i : Nat => (pinAt P (i : Int)).getD (-1))
theorem pinPlan_at {P : List Pin} {i : Nat} (h : i < L.length) : aI (pinPlan L P) (i : Int) = (pinAt P (i : Int)).getD (-1) := by
  unfold aI pinPlan
  rw [Int.toNat_natCast, List.getD_eq_getElem?_getD, List.getElem?_map, List.getElem?_range h]
  rfl
theorem pinPlan_P {k : Nat} (hv : Small k v) {P : List Pin} (hI : InOK v L P) : PlanP v L P (pinPlan L P) := by
  have hl : (pinPlan L P).length = L.length := by unfold pinPlan; simp
  have hP := hI.2.1
  have hsome : ∀ i : Nat, i < L.length → ¬ aI (pinPlan L P) (i : Int) = -1 → ∃ j, j < P.length ∧ (aI P (j : Int)).Party = (i : Int) ∧ (aI P (j : Int)).First = aI (pinPlan L P) (i : Int) := fun i hi h => by
    rw [pinPlan_at hi] at h ⊢
    cases hp : pinAt P (i : Int) with
    | none => rw [hp] at h; exact absurd rfl h
    | some f => exact pinAt_some hp
  refine ⟨hI, hl, fun i hi => ⟨fun f hf => ?_, fun h => ?_, fun h j hj hn => ?_⟩⟩
  · rw [pinPlan_at (by omega), hf]; rfl
  · obtain ⟨j, h1, h2, h3⟩ := hsome i (by omega) h
    have := (hP j h1).pl
    rw [h2, h3] at this
    exact this
  · obtain ⟨a, a1, a2, a3⟩ := hsome i (by omega) h
    obtain ⟨b, b1, b2, b3⟩ := hsome j (by omega) hn
    have hba : b < a := by
      rcases Nat.lt_trichotomy b a with h | h | h
      · exact h
      · rw [h] at b2; omega
      · have := hP.rise a b h b1; omega
    have := (hP a a1).ap b hba
    rw [a2, a3, b2, b3] at this
    exact this
end
end Go.Px

set_option linter.unusedVariables false
set_option linter.unusedSimpArgs false
namespace Go.Px
open Go Go.Sh
def setR (f : List Int) (s : Nat) (x : Int) : Nat → List Int
  | 0 => f
  | m + 1 => (setR f s x m).set (s + m) x
theorem setR_len {f : List Int} {s : Nat} {x : Int} : ∀ {m : Nat}, (setR f s x m).length = f.length
  | 0 => rfl
  | m + 1 => by rw [setR, List.length_set, setR_len]
theorem setR_at {f : List Int} {s : Nat} {x : Int} {q : Nat} : ∀ {m : Nat}, s + m ≤ f.length → aI (setR f s x m) (q : Int) = if s ≤ q ∧ q < s + m then x else aI f (q : Int)
  | 0, _ => by rw [setR, if_neg (by omega)]
  | m + 1, h => by
    rw [setR, aI_set (by rw [setR_len]; omega), setR_at (by omega)]
    by_cases h1 : q = s + m
    · rw [if_pos h1, if_pos (by omega)]
    · rw [if_neg h1]
      by_cases h2 : s ≤ q ∧ q < s + m
      · rw [if_pos h2, if_pos (by omega)]
      · rw [if_neg h2, if_neg (by omega)]
theorem aI_nat {α : Type} [Inhabited α] {l : List α} {q : Nat} (h : q < l.length) : aI l (q : Int) = l[q] := by
  unfold aI
  rw [Int.toNat_natCast, List.getD_eq_getElem?_getD, List.getElem?_eq_getElem h]
  rfl
theorem setR_count {f : List Int} {s : Nat} {x : Int} (hx : ¬ x = 0) (y : Int) : ∀ {m : Nat}, s + m ≤ f.length → (∀ q : Nat, s ≤ q → q < s + m → aI f (q : Int) = 0) → (setR f s x m).count y + (if y = 0 then m else 0) = f.count y + (if y = x then m else 0)
  | 0, _, _ => by rw [setR]; simp
  | m + 1, h, h0 => by
    have ih := setR_count hx y (m := m) (by omega) (fun q a b => h0 q a (by omega))
    have hz : (setR f s x m)[s + m]'(by rw [setR_len]; omega) = 0 := by
      rw [← aI_nat, setR_at (by omega), if_neg (by omega)]
      exact h0 (s + m) (by omega) (by omega)
    rw [setR, List.count_set (by rw [setR_len]; omega), hz]
    have hpos : y = 0 → 0 < (setR f s x m).count y := fun e => by
      rw [e]
      exact List.count_pos_iff.2 (by rw [← hz]; exact List.getElem_mem _)
    by_cases e0 : y = 0
    · have := hpos e0
      subst e0
      rw [if_pos rfl] at ih
      rw [if_pos rfl, if_pos (by simp), if_neg (by simpa using hx), if_neg (fun e => hx e.symm)]
      rw [if_neg (fun e => hx e.symm)] at ih
      omega
    · rw [if_neg e0] at ih ⊢
      rw [if_neg (by simpa using fun e => e0 e.symm)]
      by_cases e1 : y = x
      · rw [if_pos e1] at ih ⊢
        rw [if_pos (by simpa using e1.symm)]
        omega
      · rw [if_neg e1] at ih ⊢
        rw [if_neg (by simpa using fun e => e1 e.symm)]
        omega
/-- A seat of a party's. -/
def rg (L : List Party) (r : List Int) (j : Nat) (s : Int) : Prop := 0 ≤ aI r (j : Int) ∧ aI r (j : Int) ≤ s ∧ s < aI r (j : Int) + (aI L (j : Int)).Size
def DisjP (v : Venue) (L : List Party) (r : List Int) (i : Nat) : Prop := ∀ j, j < i → 0 ≤ aI r (j : Int) → plB v (aI L (j : Int)) (aI r (j : Int)) = true ∧ ∀ j', j' < j → ∀ s, rg L r j s → ¬ rg L r j' s
theorem DisjP.mono {v : Venue} {L : List Party} {r : List Int} {i j : Nat} (h : DisjP v L r i) (hj : j ≤ i) : DisjP v L r j := fun a ha => h a (by omega)
def ownSt (n : Nat) (L : List Party) (r : List Int) : Nat → List Int
  | 0 => List.replicate n 0
  | i + 1 => if 0 ≤ aI r (i : Int) then setR (ownSt n L r i) (aI r (i : Int)).toNat ((i : Int) + 1) (aI L (i : Int)).Size.toNat else ownSt n L r i
theorem ownSt_len {n : Nat} {L : List Party} {r : List Int} : ∀ {i : Nat}, (ownSt n L r i).length = n
  | 0 => by rw [ownSt, List.length_replicate]
  | i + 1 => by
    rw [ownSt]
    split
    · rw [setR_len, ownSt_len]
    · exact ownSt_len
section
variable {k : Nat} {v : Venue} {L : List Party} {r : List Int}
structure OwnF (v : Venue) (L : List Party) (r : List Int) (i : Nat) (f : List Int) : Prop where
  none : ∀ s : Nat, s < v.Seats.length → (∀ j, j < i → ¬ rg L r j (s : Int)) → aI f (s : Int) = 0
  some : ∀ s : Nat, ∀ j, j < i → rg L r j (s : Int) → aI f (s : Int) = (j : Int) + 1
  zero : (f.count 0 : Int) + seatN L r i = v.Seats.length
  cnt : ∀ j : Nat, (f.count ((j : Int) + 1) : Int) = if j < i ∧ 0 ≤ aI r (j : Int) then (aI L (j : Int)).Size else 0
theorem own_F (hv : Small k v) : ∀ {i : Nat}, DisjP v L r i → OwnF v L r i (ownSt v.Seats.length L r i)
  | 0, _ => by
    refine ⟨fun s hs _ => ?_, fun s j hj => absurd hj (by omega), ?_, fun j => ?_⟩
    · rw [ownSt, aI_nat (by rw [List.length_replicate]; exact hs), List.getElem_replicate]
    · rw [ownSt, List.count_replicate, seatN]; simp
    · have h1 : ¬ ((0 : Int) == (j : Int) + 1) = true := fun e => by
        have := eq_of_beq e
        omega
      rw [ownSt, List.count_replicate, if_neg h1, if_neg (by omega)]
      rfl
  | i + 1, hD => by
    have ih := own_F hv (hD.mono (Nat.le_succ i))
    rw [ownSt]
    by_cases h : 0 ≤ aI r (i : Int)
    · obtain ⟨hp, hd⟩ := hD i (by omega) h
      obtain ⟨_, hm, h1, h2⟩ := plB_in hv hp
      have hfit : (aI r (i : Int)).toNat + (aI L (i : Int)).Size.toNat ≤ (ownSt v.Seats.length L r i).length := by rw [ownSt_len]; omega
      have h0 : ∀ q : Nat, (aI r (i : Int)).toNat ≤ q → q < (aI r (i : Int)).toNat + (aI L (i : Int)).Size.toNat → aI (ownSt v.Seats.length L r i) (q : Int) = 0 := fun q a b =>
        ih.none q (by omega) (fun j hj => hd j hj q ⟨h, by omega, by omega⟩)
      rw [if_pos h]
      refine ⟨fun s hs hn => ?_, fun s j hj hr => ?_, ?_, fun j => ?_⟩
      · have hni := hn i (by omega)
        rw [setR_at hfit, if_neg (fun x => hni ⟨h, by omega, by omega⟩)]
        exact ih.none s hs (fun j hj => hn j (by omega))
      · rw [setR_at hfit]
        by_cases hi : j = i
        · subst hi
          obtain ⟨a, b, c⟩ := hr
          rw [if_pos (by omega)]
        · rw [if_neg (fun x => hd j (by omega) s ⟨h, by omega, by omega⟩ hr)]
          exact ih.some s j (by omega) hr
      · have := setR_count (f := ownSt v.Seats.length L r i) (x := (i : Int) + 1) (by omega) 0 hfit h0
        rw [if_pos rfl, if_neg (by omega)] at this
        have hz := ih.zero
        rw [seatN, if_pos h]
        omega
      · have := setR_count (f := ownSt v.Seats.length L r i) (x := (i : Int) + 1) (by omega) ((j : Int) + 1) hfit h0
        rw [if_neg (by omega)] at this
        have hc := ih.cnt j
        by_cases hi : j = i
        · subst hi
          rw [if_neg (by omega)] at hc
          rw [if_pos rfl] at this
          rw [if_pos ⟨by omega, h⟩]
          omega
        · rw [if_neg (by omega)] at this
          by_cases h3 : j < i ∧ 0 ≤ aI r (j : Int)
          · rw [if_pos h3] at hc
            rw [if_pos ⟨by omega, h3.2⟩]
            omega
          · rw [if_neg h3] at hc
            rw [if_neg (fun x => h3 ⟨by omega, x.2⟩)]
            omega
    · rw [if_neg h]
      refine ⟨fun s hs hn => ih.none s hs (fun j hj => hn j (by omega)), fun s j hj hr => ?_, ?_, fun j => ?_⟩
      · by_cases hi : j = i
        · subst hi; exact absurd hr.1 h
        · exact ih.some s j (by omega) hr
      · have := ih.zero
        rw [seatN, if_neg h]
        omega
      · rw [ih.cnt j]
        by_cases hi : j = i
        · subst hi
          rw [if_neg (fun x => h x.2), if_neg (fun x => h x.2)]
        · by_cases h3 : j < i ∧ 0 ≤ aI r (j : Int)
          · rw [if_pos h3, if_pos ⟨by omega, h3.2⟩]
          · rw [if_neg h3, if_neg (fun x => h3 ⟨by omega, x.2⟩)]
/-- Of a plan that may be no seat has two owners. -/
theorem PlanP.disj (hv : Small k v) {P : List Pin} (h : PlanP v L P r) : DisjP v L r L.length := fun j hj h0 => by
  have hG := h.at_ j (by rw [h.len]; exact hj)
  refine ⟨hG.pl (by omega), fun j' hj' s hs hs' => ?_⟩
  have := hG.ap (by omega) j' hj' (fun e => by have := hs'.1; omega)
  unfold aptB at this
  rw [Bool.and_eq_true, Bool.and_eq_true] at this
  obtain ⟨p1, p2, p3⟩ := this
  obtain ⟨_, a1, a2, a3⟩ := plB_in hv p1
  obtain ⟨_, b1, b2, b3⟩ := plB_in hv p2
  obtain ⟨_, c1, c2⟩ := hs
  obtain ⟨_, d1, d2⟩ := hs'
  have := (apB_iff.1 p3 (s - aI r (j : Int)).toNat (by omega) (s - aI r (j' : Int)).toNat (by omega)).1
  exact this (by omega)
theorem owners_l3 (i : Nat) (hi : i ≤ 1000) {f : List Int} {s : Nat} {p : Party} {m : Nat} (hm : p.Size = m) (hf : s + m ≤ f.length) (hb : f.length ≤ 1000) : ∀ (d n j : Nat), j + d = m → d < n → plan_Owners_l3 k (i : Int) (s : Int) p n (setR f s ((i : Int) + 1) j) (j : Int) = some (setR f s ((i : Int) + 1) m)
  | d, 0, j, _, h => absurd h (by omega)
  | 0, n + 1, j, hj, _ => by
    rw [plan_Owners_l3, condN (by omega), show j = m by omega]
  | d + 1, n + 1, j, hj, hd => by
    have e : wr ((s : Int) + (j : Int)) = ((s + j : Nat) : Int) := by rw [wr_id (by omega) (by omega)]; omega
    rw [plan_Owners_l3, condD (by omega), condD (by omega), e, bindS (idx_aI (by omega) (by rw [setR_len]; omega)), wr_id (x := (i : Int) + 1) (by omega) (by omega), wr_succ (by omega), Int.toNat_natCast]
    exact owners_l3 i hi hm hf hb d n (j + 1) (by omega) (by omega)
theorem owners_l3_no (i : Nat) (hi : i ≤ 1000) {f : List Int} {s : Int} (hs : ¬ 0 ≤ s) {p : Party} {m : Nat} (hm : p.Size = m) (hb : m ≤ 1000) : ∀ (d n j : Nat), j + d = m → d < n → plan_Owners_l3 k (i : Int) s p n f (j : Int) = some f
  | d, 0, j, _, h => absurd h (by omega)
  | 0, n + 1, j, hj, _ => by
    rw [plan_Owners_l3, condN (by omega)]
  | d + 1, n + 1, j, hj, hd => by
    rw [plan_Owners_l3, condD (by omega), condN hs, wr_succ (by omega)]
    exact owners_l3_no i hi hs hm hb d n (j + 1) (by omega) (by omega)
theorem owners_l2 (hk : 1000 < k) (hv : Small k v) (hn : v.Seats.length ≤ 1000) (hL : L.length ≤ 1000) (hr : r.length = L.length) (hD : DisjP v L r L.length) (hA : AllMay L) : ∀ (d n i : Nat), i + d = L.length → d < n → plan_Owners_l2 k L r n (ownSt v.Seats.length L r i) (i : Int) = some (ownSt v.Seats.length L r L.length)
  | d, 0, i, _, h => absurd h (by omega)
  | 0, n + 1, i, hi, _ => by
    rw [plan_Owners_l2, condN (by omega), show i = L.length by omega]
  | d + 1, n + 1, i, hi, hd => by
    have hm := hA.2 i (by omega)
    rw [plan_Owners_l2, condD (by omega), bindS (idx_aI (by omega) (by omega)), bindS (idx_aI (by omega) (by omega)), wr_succ (by omega)]
    have ih := owners_l2 hk hv hn hL hr hD hA d n (i + 1) (by omega) (by omega)
    rw [ownSt] at ih
    by_cases h : 0 ≤ aI r (i : Int)
    · obtain ⟨_, _, h1, h2⟩ := plB_in hv (hD i (by omega) h).1
      rw [if_pos h] at ih
      have e := owners_l3 (k := k) i (by omega) (f := ownSt v.Seats.length L r i) (s := (aI r (i : Int)).toNat) (p := aI L (i : Int)) (m := (aI L (i : Int)).Size.toNat) (by omega) (by rw [ownSt_len]; omega) (by rw [ownSt_len]; omega) (aI L (i : Int)).Size.toNat k 0 (by omega) (by omega)
      rw [show (((aI r (i : Int)).toNat : Nat) : Int) = aI r (i : Int) by omega] at e
      have e : plan_Owners_l3 k (i : Int) (aI r (i : Int)) (aI L (i : Int)) k (ownSt v.Seats.length L r i) 0 = _ := e
      rw [bindS e]
      exact ih
    · rw [if_neg h] at ih
      have e := owners_l3_no (k := k) i (by omega) (f := ownSt v.Seats.length L r i) h (p := aI L (i : Int)) (m := (aI L (i : Int)).Size.toNat) (by omega) (by omega) (aI L (i : Int)).Size.toNat k 0 (by omega) (by omega)
      have e : plan_Owners_l3 k (i : Int) (aI r (i : Int)) (aI L (i : Int)) k (ownSt v.Seats.length L r i) 0 = _ := e
      rw [bindS e]
      exact ih
theorem plan_Owners_eq (hk : 1000 < k) (hp : Prob v L) (hb : k ≤ 4294967290) (ho : ∀ i : Nat, i < r.length → okI (aI r (i : Int))) : plan_Owners k v L r = some (if dB (PlanP v L [] r) = true then ownSt v.Seats.length L r L.length else []) := by
  have hv := hp.small (k := k) (by omega) hb
  have h4 := hp.l4
  have hn := hp.n1
  unfold plan_Owners
  rw [bindS (plan_May_eq hv hk (by omega) (by simp; omega) (fun i hi => absurd hi (by simp)) ho)]
  rcases Classical.em (PlanP v L [] r) with h | h
  · have e := owners_l2 hk hv (by omega) (by omega) h.len (h.disj hv) hp.all L.length k 0 (by omega) (by omega)
    rw [dB_T h, cNT, gdD (by omega), if_pos rfl]
    have e : plan_Owners_l2 k L r k (List.replicate v.Seats.length 0) 0 = _ := e
    rw [Int.toNat_natCast, bindS e]
  · rw [dB_F h, cNF, if_neg (by simp)]
end
end Go.Px

set_option linter.unusedVariables false
set_option linter.unusedSimpArgs false
namespace Go.Px
open Go Go.Sh
section
variable {k : Nat} {v : Venue} {L : List Party} {r : List Int}
/-- How many seats each owner has among the first ones. -/
def cntR (f : List Int) (i : Nat) : List Int := (List.range 6).map (fun y : Nat => if y = 0 then 0 else ((f.take i).count (y : Int) : Int))
theorem cntR_len {f : List Int} {i : Nat} : (cntR f i).length = 6 := by unfold cntR; simp
theorem cntR_at {f : List Int} {i y : Nat} (h : y < 6) : aI (cntR f i) (y : Int) = if y = 0 then 0 else ((f.take i).count (y : Int) : Int) := by
  unfold aI cntR
  rw [Int.toNat_natCast, List.getD_eq_getElem?_getD, List.getElem?_map, List.getElem?_range h]
  rfl
theorem take_count {f : List Int} {i : Nat} (h : i < f.length) (y : Int) : (f.take (i + 1)).count y = (f.take i).count y + if aI f (i : Int) = y then 1 else 0 := by
  rw [List.take_add_one, List.count_append, List.getElem?_eq_getElem h, aI_nat h]
  simp only [Option.toList_some]
  rw [List.count_singleton]
  by_cases e : f[i] = y
  · rw [if_pos e, if_pos (by simpa using e)]
  · rw [if_neg e, if_neg (by simpa using e)]
theorem count_le {f : List Int} {i : Nat} {y : Int} : (f.take i).count y ≤ f.length := by
  have h1 := List.count_le_length (a := y) (l := f.take i)
  have h2 : (f.take i).length ≤ f.length := by rw [List.length_take]; omega
  omega
theorem powners_l0 {f : List Int} (hf : f.length ≤ 1000) (hL : L.length ≤ 5) (hx : ∀ i : Nat, i < f.length → 0 ≤ aI f (i : Int) ∧ aI f (i : Int) ≤ L.length) : ∀ (d n i : Nat), i + d = f.length → d < n →
    law12_PlanOwners_l0 k (v, L) f n ((i : Int) - ((f.take i).count 0 : Int)) (cntR f i) (i : Int) = some (.go ((f.length : Int) - (f.count 0 : Int), cntR f f.length))
  | d, 0, i, _, h => absurd h (by omega)
  | 0, n + 1, i, hi, _ => by
    rw [law12_PlanOwners_l0, condN (by omega), show i = f.length by omega, List.take_length]
  | d + 1, n + 1, i, hi, hd => by
    obtain ⟨x0, x1⟩ := hx i (by omega)
    have ih := powners_l0 hf hL hx d n (i + 1) (by omega) (by omega)
    have hc := count_le (f := f) (i := i) (y := 0)
    have ht0 := take_count (f := f) (i := i) (by omega) 0
    have hvL : (((v, L) : Venue × List Party).2.length : Int) = (L.length : Int) := rfl
    rw [law12_PlanOwners_l0, condD (by omega), bindS (idx_aI (by omega) (by omega)), condN (by omega), bindS (idx_aI (by omega) (by omega)), condN (by omega), bindS (idx_aI (by omega) (by omega)), wr_succ (by omega)]
    by_cases h : 0 < aI f (i : Int)
    · obtain ⟨y, hy⟩ := Int.eq_ofNat_of_zero_le x0
      have hy : aI f (i : Int) = (y : Int) := hy
      have hcy := count_le (f := f) (i := i) (y := (y : Int))
      rw [condD h, bindS (idx_aI (by omega) (by omega)), gdD (by omega), bindS (idx_aI (l := cntR f i) (by omega) (by rw [cntR_len]; omega)), gdD (by omega), bindS (idx_aI (l := cntR f i) (by omega) (by rw [cntR_len]; omega))]
      rw [if_neg (by omega)] at ht0
      have e1 : wr ((i : Int) - ((f.take i).count 0 : Int) + 1) = ((i + 1 : Nat) : Int) - ((f.take (i + 1)).count 0 : Int) := by rw [wr_id (by omega) (by omega), ht0]; omega
      have e2 : (cntR f i).set (aI f (i : Int)).toNat (wr (aI (cntR f i) (aI f (i : Int)) + 1)) = cntR f (i + 1) := by
        refine aI_ext (by rw [List.length_set, cntR_len, cntR_len]) fun q hq => ?_
        rw [List.length_set, cntR_len] at hq
        have hyL : y < 6 := by omega
        have c1 := cntR_at (f := f) (i := i) (y := y) hyL
        have c2 := cntR_at (f := f) (i := i) (y := q) hq
        have c3 := cntR_at (f := f) (i := i + 1) (y := q) hq
        have t3 := take_count (f := f) (i := i) (by omega) (q : Int)
        rw [if_neg (by omega)] at c1
        rw [hy, Int.toNat_natCast, aI_set (by rw [cntR_len]; omega), c1, c2, c3, t3, hy]
        by_cases hq0 : q = 0
        · rw [if_neg (by omega), if_pos hq0, if_pos hq0]
        · rw [if_neg hq0]
          by_cases hqy : q = y
          · rw [if_pos hqy, if_neg hq0, if_pos (by omega), hqy, wr_id (by omega) (by omega)]
            omega
          · rw [if_neg hqy, if_neg hq0, if_neg (by omega)]
            rfl
      rw [e1, e2]
      exact ih
    · have e0 : aI f (i : Int) = 0 := by omega
      rw [if_pos e0] at ht0
      have e1 : ((i : Int) - ((f.take i).count 0 : Int)) = ((i + 1 : Nat) : Int) - ((f.take (i + 1)).count 0 : Int) := by rw [ht0]; omega
      have e2 : cntR f i = cntR f (i + 1) := by
        refine aI_ext (by rw [cntR_len, cntR_len]) fun q hq => ?_
        rw [cntR_len] at hq
        have t3 := take_count (f := f) (i := i) (by omega) (q : Int)
        rw [cntR_at hq, cntR_at hq, t3, e0]
        by_cases hq0 : q = 0
        · rw [if_pos hq0, if_pos hq0]
        · rw [if_neg hq0, if_neg hq0, if_neg (by omega)]
          rfl
      rw [condN h, e1, e2]
      exact ih
theorem PlanOwners_true (a0 : List Int) (h0 : okLI a0) (a1 : List Int) (h1 : okLI a1) (a2 : Int) (h2 : okI a2) : ∃ k, law12_PlanOwners k a0 a1 a2 = some true := by
  refine ⟨20000, ?_⟩
  obtain ⟨v, L, e, hp⟩ := law12_Small_eq (k := 20000) a0 a1 (by omega)
  have hv := hp.small (k := 20000) (by omega) (by omega)
  obtain ⟨R, e5, hR, hRl⟩ := ref15_Plans_eq hp (k := 20000) (by omega) (by omega) (P := []) (by simp)
  have h4 := hp.l4
  have hn := hp.n1
  have hR0 : 0 < R.length := by
    obtain ⟨m, hm, _⟩ := mem_aI ((hR _).2 (pinPlan_P hv (hp.inn (PinOK_nil (v := v) (L := L)))))
    omega
  unfold law12_PlanOwners
  rw [bindS e]
  simp only
  obtain ⟨u0, u1⟩ := um a2 (R.length : Int) (by omega)
  have hw : IntKind.u64.wrap (R.length : Int) = (R.length : Int) := wu_id (by omega) (by omega)
  rw [bindS e5, condN (by omega), gdD (by rw [hw]; omega), hw, bindS (idx_aI u0 u1)]
  have hr := (hR _).1 (aI_mem (l := R) u0 u1)
  generalize aI R ((IntKind.u64.wrap a2).tmod (R.length : Int)) = r at hr
  have hF := own_F hv (hr.disj hv)
  have hl : (ownSt v.Seats.length L r L.length).length = v.Seats.length := ownSt_len
  rw [bindS (plan_Owners_eq (by omega) hp (by omega) (hr.ok hv)), dB_T hr, if_pos rfl]
  generalize ownSt v.Seats.length L r L.length = f at hF hl
  have hx : ∀ i : Nat, i < f.length → 0 ≤ aI f (i : Int) ∧ aI f (i : Int) ≤ L.length := fun i hi => by
    rcases Classical.em (∃ j, j < L.length ∧ rg L r j (i : Int)) with ⟨j, hj, hg⟩ | h
    · have := hF.some i j hj hg
      omega
    · have := hF.none i (by omega) (fun j hj hg => h ⟨j, hj, hg⟩)
      omega
  have el := powners_l0 (k := 20000) (v := v) (L := L) (f := f) (by omega) (by omega) hx f.length 20000 0 (by omega) (by omega)
  have ez : cntR f 0 = List.replicate 6 0 := by
    refine aI_ext (by rw [cntR_len, List.length_replicate]) fun q hq => ?_
    rw [cntR_len] at hq
    rw [cntR_at hq, aI_nat (by rw [List.length_replicate]; exact hq), List.getElem_replicate]
    split
    · rfl
    · simp
  rw [ez, List.take_zero] at el
  have el : law12_PlanOwners_l0 20000 (v, L) f 20000 0 (List.replicate 6 0) 0 = _ := el
  have hz := hF.zero
  have hc0 := List.count_le_length (a := (0 : Int)) (l := f)
  have e1 := scan_go (f := fun n i => law12_PlanOwners_l1 20000 (v, L) ((f.length : Int) - (f.count 0 : Int), cntR f f.length) r n i) (len := L.length) (good := fun _ => True)
    (fun n i hi _ => by
      show law12_PlanOwners_l1 20000 (v, L) ((f.length : Int) - (f.count 0 : Int), cntR f f.length) r (n + 1) (i : Int) = _
      have hsz := hp.ps i hi
      have ho : (cond (decide (0 ≤ aI r (i : Int))) (Option.bind (idx L (i : Int)) fun y125 => some y125.Size) (some 0)) = some (if 0 ≤ aI r (i : Int) then (aI L (i : Int)).Size else 0) := by
        by_cases h : 0 ≤ aI r (i : Int)
        · rw [condD h, if_pos h, bindS (idx_aI (by omega) (by omega))]
        · rw [condN h, if_neg h]
      have hcn := hF.cnt i
      rw [law12_PlanOwners_l1]
      simp only
      rw [condD (by omega), bindS (idx_aI (by omega) (by rw [hr.len]; omega)), bindS ho, wr_succ (by omega), gdD (by omega), bindS (idx_aI (l := cntR f f.length) (by omega) (by rw [cntR_len]; omega)), cntR_at (by omega), if_neg (by omega), List.take_length, show (((i + 1 : Nat)) : Int) = (i : Int) + 1 by omega, hcn, condNT]
      by_cases h : 0 ≤ aI r (i : Int)
      · rw [if_pos ⟨hi, h⟩, if_pos h]
      · rw [if_neg (fun x => h x.2), if_neg h])
    (fun n => by show law12_PlanOwners_l1 20000 (v, L) ((f.length : Int) - (f.count 0 : Int), cntR f f.length) r (n + 1) _ = _; rw [law12_PlanOwners_l1, condN (by simp only; omega)]) L.length 20000 0 (by omega) (by omega) (fun _ _ _ => trivial)
  have e1 : law12_PlanOwners_l1 20000 (v, L) ((f.length : Int) - (f.count 0 : Int), cntR f f.length) r 20000 0 = _ := e1
  rw [bindS el, elim_go, bindS e1, elim_go, bindS law12_told_eq, cond_true, bindS (plan_Seated_eq hp.all (by omega) (by omega) hr.len)]
  simp only
  rw [condD (by omega), decide_eq_true (by omega)]
end
end Go.Px
