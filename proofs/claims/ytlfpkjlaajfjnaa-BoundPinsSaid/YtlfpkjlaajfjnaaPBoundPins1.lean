/- The plain law, in parts: Plans, PlanPins, PlaceKilled, Bound, Bounds, BoundMost, BoundOpen. -/
import Derived.Test.YtlfpkjlaajfjnaaPBoundPins0
set_option linter.unusedVariables false
set_option linter.unusedSimpArgs false
namespace Go.Px
open Go Go.Sh
theorem aI_lt {α : Type} [Inhabited α] {l m : List α} {i : Nat} (h : i < l.length) : aI (l ++ m) (i : Int) = aI l (i : Int) := by
  unfold aI
  rw [Int.toNat_natCast, List.getD_eq_getElem?_getD, List.getD_eq_getElem?_getD, List.getElem?_append_left h]
theorem aI_last {α : Type} [Inhabited α] {l : List α} {x : α} {i : Nat} (h : i = l.length) : aI (l ++ [x]) (i : Int) = x := by
  unfold aI
  rw [Int.toNat_natCast, List.getD_eq_getElem?_getD, h, List.getElem?_append_right (Nat.le_refl _), Nat.sub_self]
  rfl
theorem aI_ext {α : Type} [Inhabited α] {l m : List α} (hl : l.length = m.length) (h : ∀ i : Nat, i < l.length → aI l (i : Int) = aI m (i : Int)) : l = m := by
  refine List.ext_getElem hl fun i h1 h2 => ?_
  have := h i h1
  unfold aI at this
  rw [Int.toNat_natCast, List.getD_eq_getElem?_getD, List.getD_eq_getElem?_getD, List.getElem?_eq_getElem h1, List.getElem?_eq_getElem h2] at this
  exact this
/-- A small problem. -/
structure Prob (v : Venue) (L : List Party) : Prop where
  may : MayV v
  n1 : v.Seats.length ≤ 9
  kl : v.Kills.length ≤ 9
  pl : v.Poles.length ≤ 9
  rad : InP v.Radius 0 24
  l4 : L.length ≤ 4
  ps : ∀ i : Nat, i < L.length → MayP (aI L (i : Int)) ∧ (aI L (i : Int)).Size ≤ 3
theorem Prob.all {v : Venue} {L : List Party} (h : Prob v L) : AllMay L := ⟨by have := h.l4; omega, fun i hi => (h.ps i hi).1⟩
theorem Prob.small {v : Venue} {L : List Party} (h : Prob v L) {k : Nat} (h1 : 9 < k) (h2 : k ≤ 4294967290) : Small k v := ⟨by have := h.n1; omega, by have := h.kl; omega, by have := h.pl; omega, h2, by omega⟩
theorem Prob.inn {v : Venue} {L : List Party} (h : Prob v L) {P : List Pin} (hP : PinOK v L P) : InOK v L P := ⟨h.may, hP, h.all⟩
theorem small_l0 (k : Nat) (l : List Int) : ∀ (d n i : Nat) (w : List Party), i + d = 4 → d < n → w.length = i → (∀ j : Nat, j < w.length → MayP (aI w (j : Int)) ∧ (aI w (j : Int)).Size ≤ 3) → ∃ o, law12_Small_l0 k l n w (i : Int) = some o ∧ o.length ≤ 4 ∧ ∀ j : Nat, j < o.length → MayP (aI o (j : Int)) ∧ (aI o (j : Int)).Size ≤ 3
  | d, 0, i, w, _, h, _, _ => absurd h (by omega)
  | 0, n + 1, i, w, hi, _, hw, hp => by
    rw [law12_Small_l0]
    by_cases h : (i : Int) < (l.length : Int)
    · rw [condD h, condN (by omega)]
      exact ⟨w, rfl, by omega, hp⟩
    · rw [condN h]
      exact ⟨w, rfl, by omega, hp⟩
  | d + 1, n + 1, i, w, hi, hd, hw, hp => by
    rw [law12_Small_l0]
    by_cases h : (i : Int) < (l.length : Int)
    · obtain ⟨u0, u1⟩ := um (aI l (i : Int)) 3 (by omega)
      rw [condD h, condD (by omega), bindS (idx_aI (by omega) h), wr_id (x := (IntKind.u64.wrap (aI l (i : Int))).tmod 3) (by omega) (by omega), wr_id (x := 1 + (IntKind.u64.wrap (aI l (i : Int))).tmod 3) (by omega) (by omega), wr_succ (by omega)]
      generalize (IntKind.u64.wrap (aI l (i : Int))).tmod 3 = q at u0 u1
      generalize ((IntKind.u64.wrap ((IntKind.u64.wrap (aI l (i : Int))).tdiv 3)).tmod 4) = q2
      have hgo : ∀ p : Party, MayP p ∧ p.Size ≤ 3 → ∃ o, (gd (decide (w.length + ([p]).length ≤ 4294967296)) (law12_Small_l0 k l n (w ++ [p]) ((i + 1 : Nat) : Int))) = some o ∧ o.length ≤ 4 ∧ ∀ j : Nat, j < o.length → MayP (aI o (j : Int)) ∧ (aI o (j : Int)).Size ≤ 3 := fun p hpp => by
        rw [gdD (by simp only [List.length_singleton]; omega)]
        refine small_l0 k l d n (i + 1) (w ++ [p]) (by omega) (by omega) (by simp [hw]) fun j hj => ?_
        rw [List.length_append, List.length_singleton] at hj
        by_cases hjw : j < w.length
        · rw [aI_lt hjw]; exact hp j hjw
        · rw [aI_last (by omega)]; exact hpp
      by_cases h2 : q2 = 0
      · rw [condD h2, bindS rfl]
        by_cases h3 : 1 < 1 + q
        · rw [condD h3]
          exact hgo _ ⟨⟨by simp only; omega, by simp only; omega, by simp only; omega, by simp only; omega, by simp only; omega⟩, by simp only; omega⟩
        · rw [condN h3]
          exact hgo _ ⟨⟨by simp only; omega, by simp only; omega, by simp only; omega, by simp only; omega, by simp only; omega⟩, by simp only; omega⟩
      · rw [condN h2, bindS rfl, cond_false]
        exact hgo _ ⟨⟨by simp only; omega, by simp only; omega, by simp only; omega, by simp only; omega, by simp only; omega⟩, by simp only; omega⟩
    · rw [condN h]
      exact ⟨w, rfl, by omega, hp⟩
theorem law12_Small_eq {k : Nat} (l m : List Int) (hk : 100 ≤ k) : ∃ v L, law12_Small k l m = some (v, L) ∧ Prob v L := by
  obtain ⟨v, e, hv⟩ := law3_Make_eq k l 9 (by omega) (by omega) (by omega)
  have e : law3_Make k l 9 = some v := e
  obtain ⟨L, eL, hL1, hL2⟩ := small_l0 k m 4 k 0 [] (by omega) (by omega) rfl (fun j hj => absurd hj (by simp))
  have eL : law12_Small_l0 k m k [] 0 = some L := eL
  have h6 : ∃ b, (cond (decide (0 < (m.length : Int))) (Option.bind (idx m 0) fun y10 => some (!decide ((y10.tmod 3) = 0))) (some false)) = some b := by
    by_cases h : 0 < (m.length : Int)
    · rw [condD h, bindS (idx_aI (by omega) h)]; exact ⟨_, rfl⟩
    · rw [condN h]; exact ⟨_, rfl⟩
  obtain ⟨b, eb⟩ := h6
  have h13 : ∃ r, cond b (some (v.Radius.tmod 12)) (some v.Radius) = some r ∧ InP r 0 24 := by
    have hr := hv.rad
    cases b
    · exact ⟨_, rfl, hr⟩
    · refine ⟨_, rfl, Int.tmod_nonneg _ hr.1, ?_⟩
      have := Int.tmod_lt_of_pos v.Radius (b := 12) (by omega)
      omega
  obtain ⟨r, er, hr⟩ := h13
  unfold law12_Small
  rw [bindS e, bindS eb, bindS er, bindS eL]
  have hM := hv.may
  exact ⟨_, _, rfl, ⟨hM.seats, hM.n0, hM.n1, hM.gap, by show InP r 0 1048576; omega, hM.kills, hM.k1, hM.poles, hM.p1⟩, hv.n1, hv.kl, hv.pl, hr, hL1, hL2⟩
theorem pins_ok {k : Nat} {v : Venue} {L : List Party} {P : List Pin} (hv : Small k v) (hP : PinOK v L P) : ∀ i : Nat, i < P.length → okI (aI P (i : Int)).First := fun i hi => by
  have h := hP i hi
  obtain ⟨_, h1, h2, h3⟩ := plB_in hv h.pl
  have := hv.hs
  have := hv.b
  exact ⟨by omega, by omega⟩
theorem PlanP.ok {k : Nat} {v : Venue} {L : List Party} {P : List Pin} {r : List Int} (hv : Small k v) (h : PlanP v L P r) : ∀ i : Nat, i < r.length → okI (aI r (i : Int)) := fun i hi => by
  by_cases h1 : aI r (i : Int) = -1
  · rw [h1]; exact ⟨by omega, by omega⟩
  · obtain ⟨_, h1, h2, h3⟩ := plB_in hv ((h.at_ i hi).pl h1)
    have := hv.hs
    have := hv.b
    exact ⟨by omega, by omega⟩
theorem pins_l0 {k : Nat} {v : Venue} {L : List Party} (hp : Prob v L) (hk : 1000 < k) (hb : k ≤ 4294967290) : ∀ (d n i : Nat) (P : List Pin) (m : Int), i + d = L.length → d < n → P.length ≤ i → PinOK v L P → ∃ P', law12_Pins_l0 k v L n P m (i : Int) = some P' ∧ P'.length ≤ 4 ∧ PinOK v L P'
  | d, 0, i, P, m, _, h, _, _ => absurd h (by omega)
  | 0, n + 1, i, P, m, hi, _, hl, hP => by
    have := hp.l4
    rw [law12_Pins_l0, condN (by omega)]
    exact ⟨P, rfl, by omega, hP⟩
  | d + 1, n + 1, i, P, m, hi, hd, hl, hP => by
    have h4 := hp.l4
    have hv := hp.small (k := k) (by omega) hb
    have hal := allV_len v (aI L (i : Int))
    have hn := hp.n1
    have hrec : ∀ (P : List Pin) (m : Int), P.length ≤ i + 1 → PinOK v L P → ∃ P', law12_Pins_l0 k v L n P m ((i + 1 : Nat) : Int) = some P' ∧ P'.length ≤ 4 ∧ PinOK v L P' := fun P m a b => pins_l0 hp hk hb d n (i + 1) P m (by omega) (by omega) a b
    rw [law12_Pins_l0, condD (by omega), bindS (idx_aI (by omega) (by omega)), bindS (ref6_AllPlaces_eq hv hk _), wr_succ (by omega)]
    by_cases h1 : m.tmod 3 = 0
    · rw [condNT h1]
      by_cases h2 : ((allV v (aI L (i : Int))).length : Int) = 0
      · rw [condD h2]
        exact hrec _ _ (by omega) hP
      · have hw : IntKind.u64.wrap ((allV v (aI L (i : Int))).length : Int) = ((allV v (aI L (i : Int))).length : Int) := wu_id (by omega) (by omega)
        obtain ⟨u0, u1⟩ := um (m.tdiv 3) ((allV v (aI L (i : Int))).length : Int) (by omega)
        rw [condN h2, gdD (by simp only [List.length_nil]; omega), gdD (by rw [hw]; omega), hw, bindS (idx_aI u0 u1), List.nil_append]
        generalize aI (allV v (aI L (i : Int))) ((IntKind.u64.wrap (m.tdiv 3)).tmod ((allV v (aI L (i : Int))).length : Int)) = f
        have hql : (P ++ [Pin.mk (i : Int) f]).length = P.length + 1 := by simp
        rw [gdD (by simp only [List.length_singleton]; omega), bindS (ref6_MayPins_eq hv hk (by omega) (by omega))]
        rcases Classical.em (InOK v L (P ++ [Pin.mk (i : Int) f])) with hq | hq
        · rw [dB_T hq, cond_true]
          exact hrec _ _ (by omega) hq.2.1
        · rw [dB_F hq, cond_false]
          exact hrec _ _ (by omega) hP
    · rw [condNF h1]
      exact hrec _ _ (by omega) hP
theorem law12_Pins_eq {k : Nat} {v : Venue} {L : List Party} (hp : Prob v L) (hk : 1000 < k) (hb : k ≤ 4294967290) (m : Int) : ∃ P, law12_Pins k v L m = some P ∧ P.length ≤ 4 ∧ PinOK v L P := by
  have := hp.l4
  obtain ⟨P, e, h⟩ := pins_l0 hp hk hb L.length k 0 [] (IntKind.u64.wrap m) (by omega) (by omega) (by simp) PinOK_nil
  have e : law12_Pins_l0 k v L k [] (IntKind.u64.wrap m) 0 = some P := e
  unfold law12_Pins
  rw [bindS e]
  exact ⟨P, rfl, h⟩
/- all plans -/
theorem allV_mem {k : Nat} {v : Venue} (hv : Small k v) {p : Party} {s : Int} : s ∈ allV v p ↔ plB v p s = true := by
  unfold allV plB
  cases mayB v
  · simp
  · rw [cond_true, Bool.true_and]
    unfold allL
    rw [List.mem_map]
    constructor
    · rintro ⟨a, h, rfl⟩
      exact (List.mem_filter.1 h).2
    · intro h
      have hN := hv.hs
      have hb := hv.b
      obtain ⟨h1, h2, h3, _⟩ := placeB_pos (by omega) h
      refine ⟨s.toNat, List.mem_filter.2 ⟨List.mem_range.2 (by omega), ?_⟩, by omega⟩
      rw [show ((s.toNat : Nat) : Int) = s by omega]
      exact h
noncomputable def nextP (v : Venue) (L : List Party) (i : Nat) (r : List Int) : List (List Int) := (allV v (aI L (i : Int)) ++ [-1]).map (fun s => r ++ [s])
noncomputable def allP (v : Venue) (L : List Party) : Nat → List (List Int)
  | 0 => [[]]
  | i + 1 => (allP v L i).flatMap (nextP v L i)
theorem nextP_len {v : Venue} {L : List Party} {i : Nat} {r : List Int} : (nextP v L i r).length ≤ v.Seats.length + 1 := by
  unfold nextP
  rw [List.length_map, List.length_append, List.length_singleton]
  have := allV_len v (aI L (i : Int))
  omega
theorem flat_len {α : Type} {f : α → List α} {c : Nat} : ∀ {l : List α}, (∀ x, x ∈ l → (f x).length ≤ c) → (l.flatMap f).length ≤ c * l.length
  | [], _ => by simp
  | x :: l, h => by
    rw [List.flatMap_cons, List.length_append, List.length_cons, Nat.mul_succ]
    have := h x (by simp)
    have := flat_len (l := l) (fun y hy => h y (by simp [hy]))
    omega
theorem allP_len {v : Venue} {L : List Party} (hn : v.Seats.length ≤ 9) : ∀ i : Nat, (allP v L i).length ≤ 10 ^ i
  | 0 => by simp [allP]
  | i + 1 => by
    have := allP_len hn (L := L) i
    have h2 := flat_len (f := nextP v L i) (c := 10) (l := allP v L i) (fun x _ => by have := nextP_len (v := v) (L := L) (i := i) (r := x); omega)
    rw [allP, Nat.pow_succ]
    omega
theorem mem_allP {v : Venue} {L : List Party} : ∀ {i : Nat} {r : List Int}, r ∈ allP v L i ↔ r.length = i ∧ ∀ j : Nat, j < i → aI r (j : Int) = -1 ∨ aI r (j : Int) ∈ allV v (aI L (j : Int))
  | 0, r => by
    rw [allP, List.mem_singleton]
    constructor
    · rintro rfl; exact ⟨rfl, fun j hj => absurd hj (by omega)⟩
    · rintro ⟨h, _⟩; exact List.length_eq_zero_iff.1 h
  | i + 1, r => by
    rw [allP, List.mem_flatMap]
    constructor
    · rintro ⟨r0, h0, h1⟩
      obtain ⟨a, b⟩ := mem_allP.1 h0
      unfold nextP at h1
      obtain ⟨s, hs, rfl⟩ := List.mem_map.1 h1
      refine ⟨by rw [List.length_append, List.length_singleton, a], fun j hj => ?_⟩
      by_cases h : j < i
      · rw [aI_lt (by omega)]; exact b j h
      · obtain rfl : j = i := by omega
        rw [aI_last a.symm]
        rcases List.mem_append.1 hs with h | h
        · exact .inr h
        · exact .inl (List.mem_singleton.1 h)
    · rintro ⟨h1, h2⟩
      have hr : r = r.take i ++ [aI r (i : Int)] := by
        refine aI_ext (by rw [List.length_append, List.length_take, List.length_singleton]; omega) fun j hj => ?_
        by_cases h : j < i
        · rw [aI_lt (by rw [List.length_take]; omega)]
          unfold aI
          rw [Int.toNat_natCast, List.getD_eq_getElem?_getD, List.getD_eq_getElem?_getD, List.getElem?_take_of_lt h]
        · obtain rfl : j = i := by omega
          rw [aI_last (by rw [List.length_take]; omega)]
      refine ⟨r.take i, mem_allP.2 ⟨by rw [List.length_take]; omega, fun j hj => ?_⟩, ?_⟩
      · have := h2 j (by omega)
        have e : aI (r.take i) (j : Int) = aI r (j : Int) := by
          unfold aI
          rw [Int.toNat_natCast, List.getD_eq_getElem?_getD, List.getD_eq_getElem?_getD, List.getElem?_take_of_lt hj]
        rw [e]
        exact this
      · unfold nextP
        refine List.mem_map.2 ⟨aI r (i : Int), ?_, hr.symm⟩
        rcases h2 i (by omega) with h | h
        · rw [h]; simp
        · exact List.mem_append_left _ h
theorem PlanP.mem {k : Nat} {v : Venue} {L : List Party} {P : List Pin} {r : List Int} (hv : Small k v) (h : PlanP v L P r) : r ∈ allP v L L.length := by
  refine mem_allP.2 ⟨h.len, fun j hj => ?_⟩
  rw [allV_mem hv]
  by_cases h1 : aI r (j : Int) = -1
  · exact .inl h1
  · exact .inr ((h.at_ j (by rw [h.len]; exact hj)).pl h1)
theorem range_map_aI {α β : Type} [Inhabited α] {l : List α} {f : α → β} : (List.range l.length).map (fun j : Nat => f (aI l (j : Int))) = l.map f := by
  refine List.ext_getElem (by simp) fun i h1 h2 => ?_
  simp at h1 h2 ⊢
  unfold aI
  rw [Int.toNat_natCast, List.getD_eq_getElem?_getD, List.getElem?_eq_getElem h1]
  rfl
theorem filter_yes {α : Type} (l : List α) : l.filter (fun _ => true) = l := List.filter_eq_self.2 (fun _ _ => rfl)
theorem plans_l12 {k : Nat} {M : List Int} {A : List (List Int)} {j : Nat} (hj : j < A.length) (hr : (aI A (j : Int)).length ≤ 1000) (hM : M.length ≤ 10000) (hk : 20000 ≤ k) (w : List (List Int)) (hw : w.length ≤ 4294000000) :
    ref15_Plans_l12 k M A (j : Int) k w 0 = some (w ++ (M ++ [-1]).map (fun s => aI A (j : Int) ++ [s])) := by
  have hl : (([] ++ M) ++ ([(-1)] : List Int)).length = M.length + 1 := by simp
  have e := gather0 (f := fun n a i => ref15_Plans_l12 k M A (j : Int) n a i) (len := M.length + 1) (c := 4294000000) (fun _ => true) (fun s : Nat => aI A (j : Int) ++ [aI (M ++ [-1]) (s : Int)])
    (fun n i w hi hw => by
      show ref15_Plans_l12 k M A (j : Int) (n + 1) w (i : Int) = ref15_Plans_l12 k M A (j : Int) n _ _
      rw [ref15_Plans_l12, condD (by rw [hl]; omega), bindS (idx_aI (by omega) (by omega)), gdD (by simp only [List.length_nil]; omega), bindS (idx_aI (by omega) (by rw [hl]; omega)), List.nil_append, List.nil_append, gdD (by simp only [List.length_singleton]; omega), gdD (by simp only [List.length_singleton]; omega), wr_succ (by omega), if_pos rfl])
    (fun n w => by show ref15_Plans_l12 k M A (j : Int) (n + 1) w _ = _; rw [ref15_Plans_l12, condN (by rw [hl]; omega)])
    (k := k) (by omega) w hw
  have e : ref15_Plans_l12 k M A (j : Int) k w 0 = _ := e
  rw [e, filter_yes]
  have h := range_map_aI (l := M ++ [-1]) (f := fun s => aI A (j : Int) ++ [s])
  rw [List.length_append, List.length_singleton] at h
  rw [h]
theorem drop_aI {α : Type} [Inhabited α] {l : List α} {i : Nat} (h : i < l.length) : l.drop i = aI l (i : Int) :: l.drop (i + 1) := by
  unfold aI
  rw [Int.toNat_natCast, List.getD_eq_getElem?_getD, List.getElem?_eq_getElem h]
  exact List.drop_eq_getElem_cons h
section
variable {k : Nat} {v : Venue} {L : List Party}
theorem plans_l11 (hp : Prob v L) (hk : 20000 ≤ k) (hb : k ≤ 4294967290) {i : Nat} (hi : i < L.length) {A : List (List Int)} (hA : A.length ≤ 10000) (hr : ∀ r, r ∈ A → r.length ≤ 1000) : ∀ (d n j : Nat) (w : List (List Int)), j + d = A.length → d < n → w.length ≤ 10 * j →
    ref15_Plans_l11 k v L A (i : Int) n w (j : Int) = some (w ++ (A.drop j).flatMap (nextP v L i))
  | d, 0, j, w, _, h, _ => absurd h (by omega)
  | 0, n + 1, j, w, hj, _, hw => by
    rw [ref15_Plans_l11, condN (by omega), List.drop_eq_nil_of_le (by omega)]
    simp
  | d + 1, n + 1, j, w, hj, hd, hw => by
    have hv := hp.small (k := k) (by omega) hb
    have hal := allV_len v (aI L (i : Int))
    have hn := hp.n1
    have hnl := nextP_len (v := v) (L := L) (i := i) (r := aI A (j : Int))
    rw [ref15_Plans_l11, condD (by omega), bindS (idx_aI (by omega) (by omega)), bindS (ref6_AllPlaces_eq hv (by omega) _), gdD (by simp only [List.length_nil]; omega), gdD (by simp only [List.nil_append, List.length_singleton]; omega), bindS (plans_l12 (by omega) (hr _ (aI_mem (by omega) (by omega))) (by omega) hk w (by omega)), wr_succ (by omega)]
    have h := plans_l11 hp hk hb hi hA hr d n (j + 1) (w ++ nextP v L i (aI A (j : Int))) (by omega) (by omega) (by rw [List.length_append]; omega)
    rw [drop_aI (l := A) (i := j) (by omega), List.flatMap_cons, ← List.append_assoc]
    exact h
theorem plans_l8 (hp : Prob v L) (hk : 20000 ≤ k) (hb : k ≤ 4294967290) : ∀ (d n i : Nat), i + d = L.length → d < n → ref15_Plans_l8 k v L n (allP v L i) (i : Int) = some (allP v L L.length)
  | d, 0, i, _, h => absurd h (by omega)
  | 0, n + 1, i, hi, _ => by
    rw [ref15_Plans_l8, condN (by omega), show i = L.length by omega]
  | d + 1, n + 1, i, hi, hd => by
    have h4 := hp.l4
    have hA := allP_len hp.n1 (L := L) i
    have hA2 : (10 : Nat) ^ i ≤ 10 ^ 4 := Nat.pow_le_pow_right (by omega) (by omega)
    have e := plans_l11 hp hk hb (i := i) (by omega) (A := allP v L i) (by omega) (fun r hr => by rw [(mem_allP.1 hr).1]; omega) (allP v L i).length k 0 [] (by omega) (by omega) (by simp)
    have e : ref15_Plans_l11 k v L (allP v L i) (i : Int) k [] 0 = _ := e
    rw [ref15_Plans_l8, condD (by omega), bindS e, wr_succ (by omega), List.drop_zero, List.nil_append]
    exact plans_l8 hp hk hb d n (i + 1) (by omega) (by omega)
theorem ref15_Plans_eq (hp : Prob v L) (hk : 20000 ≤ k) (hb : k ≤ 4294967290) {P : List Pin} (hP : P.length ≤ 4) : ∃ R, ref15_Plans k v L P = some R ∧ (∀ r, r ∈ R ↔ PlanP v L P r) ∧ R.length ≤ 10000 := by
  have h4 := hp.l4
  have hv := hp.small (k := k) (by omega) hb
  unfold ref15_Plans
  rw [bindS (ref6_MayPins_eq hv (by omega) (by omega) (by omega))]
  rcases Classical.em (InOK v L P) with h | h
  · have e := plans_l8 hp hk hb L.length k 0 (by omega) (by omega)
    have e : ref15_Plans_l8 k v L k [[]] 0 = _ := e
    have hA := allP_len hp.n1 (L := L) L.length
    have hA2 : (10 : Nat) ^ L.length ≤ 10 ^ 4 := Nat.pow_le_pow_right (by omega) (by omega)
    rw [dB_T h, cNT, bindS e]
    generalize hAd : allP v L L.length = A at hA
    have e2 := gather0 (f := fun n a i => ref15_Plans_l13 k v L P A n a i) (len := A.length) (c := 0) (fun j : Nat => dB (PlanP v L P (aI A (j : Int)))) (fun j : Nat => aI A (j : Int))
      (fun n i w hi hw => by
        show ref15_Plans_l13 k v L P A (n + 1) w (i : Int) = ref15_Plans_l13 k v L P A n _ _
        rw [ref15_Plans_l13, condD (by omega), bindS (idx_aI (by omega) (by omega)), bindS (ref6_MayPlan_eq hv (by omega) (by omega) (by omega)), wr_succ (by omega)]
        cases dB (PlanP v L P (aI A (i : Int)))
        · rw [cond_false, if_neg (by simp)]
        · rw [cond_true, bindS (idx_aI (by omega) (by omega)), gdD (by simp only [List.length_singleton]; omega), if_pos rfl])
      (fun n w => by show ref15_Plans_l13 k v L P A (n + 1) w _ = _; rw [ref15_Plans_l13, condN (by omega)])
      (k := k) (by omega) [] (by simp)
    have e2 : ref15_Plans_l13 k v L P A k [] 0 = _ := e2
    rw [bindS e2, List.nil_append]
    refine ⟨_, rfl, fun r => ?_, ?_⟩
    · rw [List.mem_map]
      constructor
      · rintro ⟨j, hj, rfl⟩
        exact dB_iff.1 (List.mem_filter.1 hj).2
      · intro hr
        have hm := hr.mem hv
        rw [hAd] at hm
        obtain ⟨j, hj, e⟩ := mem_aI hm
        exact ⟨j, List.mem_filter.2 ⟨List.mem_range.2 hj, by rw [e]; exact dB_T hr⟩, e⟩
    · rw [List.length_map]
      have := List.length_filter_le (fun j : Nat => dB (PlanP v L P (aI A (j : Int)))) (List.range A.length)
      rw [List.length_range] at this
      omega
  · rw [dB_F h, cNF]
    refine ⟨[], rfl, fun r => ?_, by simp⟩
    constructor
    · intro hr; cases hr
    · intro hr; exact absurd hr.inn h
/- persons -/
end
end Go.Px

set_option linter.unusedVariables false
set_option linter.unusedSimpArgs false
namespace Go.Px
open Go Go.Sh
section
variable {v : Venue} {L : List Party}
theorem PlanP.pins {P : List Pin} {r : List Int} (h : PlanP v L [] r) (hP : PinOK v L P) (hh : ∀ i : Nat, i < P.length → aI r (aI P (i : Int)).Party = (aI P (i : Int)).First) : PlanP v L P r :=
  ⟨⟨h.inn.1, hP, h.inn.2.2⟩, h.len, fun i hi => ⟨fun f hf => by
    obtain ⟨j, h1, h2, h3⟩ := pinAt_some hf
    have := hh j h1
    rw [h2] at this
    rw [this, h3], (h.at_ i hi).pl, (h.at_ i hi).ap⟩⟩
theorem PlanP.held {P : List Pin} {r : List Int} (h : PlanP v L P r) {i : Nat} (hi : i < P.length) : aI r (aI P (i : Int)).Party = (aI P (i : Int)).First := by
  have hG := h.inn.2.1 i hi
  have h1 := hG.lo
  have h2 := hG.hi
  have := (h.at_ (aI P (i : Int)).Party.toNat (by rw [h.len]; omega)).pin (aI P (i : Int)).First
  rw [show (((aI P (i : Int)).Party.toNat : Nat) : Int) = (aI P (i : Int)).Party by omega] at this
  exact this (pinAt_get h.inn.2.1.rise hi)
/-- The plan of the pins alone. -/
def pinPlan (L : List Party) (P : List Pin) : List Int := (List.range L.length).map (fun i : Nat => (pinAt P (i : Int)).getD (-1))
theorem pinPlan_at {P : List Pin} {i : Nat} (h : i < L.length) : aI (pinPlan L P) (i : Int) = (pinAt P (i : Int)).getD (-1) := by
  unfold aI pinPlan
  rw [Int.toNat_natCast, List.getD_eq_getElem?_getD, List.getElem?_map, List.getElem?_range h]
  rfl
theorem pinPlan_P {k : Nat} (hv : Small k v) {P : List Pin} (hI : InOK v L P) : PlanP v L P (pinPlan L P) := by
  have hl : (pinPlan L P).length = L.length := by unfold pinPlan; simp
  have hP := hI.2.1
  have hsome : ∀ i : Nat, i < L.length → ¬ aI (pinPlan L P) (i : Int) = -1 → ∃ j, j < P.length ∧ (aI P (j : Int)).Party = (i : Int) ∧ (aI P (j : Int)).First = aI (pinPlan L P) (i : Int) := fun i hi h => by
    rw [pinPlan_at hi] at h ⊢
    cases hp : pinAt P (i : Int) with
    | none => rw [hp] at h; exact absurd rfl h
    | some f => exact pinAt_some hp
  refine ⟨hI, hl, fun i hi => ⟨fun f hf => ?_, fun h => ?_, fun h j hj hn => ?_⟩⟩
  · rw [pinPlan_at (by omega), hf]; rfl
  · obtain ⟨j, h1, h2, h3⟩ := hsome i (by omega) h
    have := (hP j h1).pl
    rw [h2, h3] at this
    exact this
  · obtain ⟨a, a1, a2, a3⟩ := hsome i (by omega) h
    obtain ⟨b, b1, b2, b3⟩ := hsome j (by omega) hn
    have hba : b < a := by
      rcases Nat.lt_trichotomy b a with h | h | h
      · exact h
      · rw [h] at b2; omega
      · have := hP.rise a b h b1; omega
    have := (hP a a1).ap b hba
    rw [a2, a3, b2, b3] at this
    exact this
end
end Go.Px

set_option linter.unusedVariables false
set_option linter.unusedSimpArgs false
namespace Go.Px
open Go Go.Sh
theorem allL_sorted (v : Venue) (U : List Bool) (p : Party) : (allL v U p).Pairwise (· < ·) := by
  unfold allL
  rw [List.pairwise_map]
  refine List.Pairwise.imp (fun h => ?_) (List.Pairwise.filter _ List.pairwise_lt_range)
  omega
end Go.Px

set_option linter.unusedVariables false
set_option linter.unusedSimpArgs false
namespace Go.Px
open Go Go.Sh
theorem mset_new {l : List (Int × Int)} {x v : Int} : mget l x = none → mset l x v = l ++ [(x, v)] := by
  induction l with
  | nil => intro _; rfl
  | cons p l ih =>
    intro h
    rw [mget_cons] at h
    split at h
    · cases h
    · rename_i hne
      rw [mset, if_neg hne, ih h]
      rfl
/-- The map of the pins has each pin once. -/
theorem pmN_mem {P : List Pin} (hP : RiseP P) {p : Int × Int} : ∀ {n : Nat}, n ≤ P.length → (p ∈ pmN P n ↔ ∃ i : Nat, i < n ∧ p = ((aI P (i : Int)).Party, (aI P (i : Int)).First))
  | 0, _ => by
    rw [pmN]
    exact ⟨fun h => (by cases h), fun ⟨i, h, _⟩ => absurd h (by omega)⟩
  | n + 1, hn => by
    have hnone : mget (pmN P n) (aI P (n : Int)).Party = none := by
      cases hm : mget (pmN P n) (aI P (n : Int)).Party with
      | none => rfl
      | some f =>
        obtain ⟨i, h1, h2, _⟩ := pmN_some hm
        have := hP i n h1 (by omega)
        omega
    rw [pmN, mset_new hnone, List.mem_append, pmN_mem hP (by omega), List.mem_singleton]
    constructor
    · rintro (⟨i, h1, h2⟩ | h)
      · exact ⟨i, by omega, h2⟩
      · exact ⟨n, by omega, h⟩
    · rintro ⟨i, h1, h2⟩
      rcases Nat.lt_or_ge i n with q | q
      · exact .inl ⟨i, q, h2⟩
      · right; rw [h2, show i = n by omega]
/-- A state that may be. -/
structure StateP (v : Venue) (L : List Party) (P : List Pin) (r : List Int) : Prop where
  inn : InOK v L P
  len : r.length ≤ L.length
  at_ : ∀ i, i < r.length → OkAt v L P r i
/-- A first seat of a party is free: beside all that is planned, and all that is pinned. -/
structure FreeP (v : Venue) (L : List Party) (P : List Pin) (r : List Int) (i : Int) (s : Int) : Prop where
  plan : ∀ j : Nat, j < r.length → ¬ aI r (j : Int) = -1 → aptB v (aI L i) s (aI L (j : Int)) (aI r (j : Int)) = true
  pins : ∀ j : Nat, j < P.length → ¬ (aI P (j : Int)).Party = i → aptB v (aI L i) s (aI L (aI P (j : Int)).Party) (aI P (j : Int)).First = true
/-- What is open for a party. -/
noncomputable def openL (v : Venue) (L : List Party) (P : List Pin) (r : List Int) (i : Int) : List Int := (allV v (aI L i)).filter fun s => dB (FreeP v L P r i s ∧ ∀ f, pinAt P i = some f → s = f)
section
variable {k : Nat} {v : Venue} {L : List Party} {P : List Pin} {r : List Int}
theorem StateP.ge (hv : Small k v) (h : StateP v L P r) {j : Nat} (hj : j < r.length) (hn : ¬ aI r (j : Int) = -1) : 0 ≤ aI r (j : Int) := (plB_in hv ((h.at_ j hj).pl hn)).2.2.1
theorem bound_in_eq (hv : Small k v) (hk : 1000 < k) (hL : L.length < k) (hP : P.length < k) (ho : ∀ i : Nat, i < P.length → okI (aI P (i : Int)).First) (hrk : r.length < k) (hr : ∀ i : Nat, i < r.length → okI (aI r (i : Int))) : ∃ S, bound_in k (BoundState.mk v L P r) = some (S, dB (StateP v L P r)) ∧ (StateP v L P r → S = PlanSet.mk (PlaceHall.mk v (usL v)) L (pmN P P.length)) := by
  unfold bound_in
  obtain ⟨S, e, hS⟩ := plan_In_eq hv hk hL hP ho
  have e : plan_In k (BoundState.mk v L P r).V (BoundState.mk v L P r).L (BoundState.mk v L P r).Pins = _ := e
  rw [bindS e]
  simp only
  rcases Classical.em (InOK v L P) with h | h
  · rw [dB_T h, cNT]
    by_cases hl : (L.length : Int) < (r.length : Int)
    · rw [condD hl, dB_F (fun x => by have := x.len; omega)]
      exact ⟨S, rfl, fun x => hS x.inn⟩
    · rw [condN hl, hS h, bindS (plan_Set_First_eq hv h.1 hk (by omega) hrk hr)]
      refine ⟨_, ?_, fun _ => rfl⟩
      congr 2
      unfold badI
      rcases Classical.em (∀ i, i < r.length → OkAt v L P r i) with hh | hh
      · rw [dB_T ⟨h, by omega, hh⟩, decide_eq_true (fstF_all.2 hh)]
      · rw [dB_F (fun x => hh x.at_), decide_eq_false (fun x => hh (fstF_all.1 x))]
  · rw [dB_F h, cNF, dB_F (fun x => h x.inn)]
    exact ⟨S, rfl, fun x => hS x.inn⟩
theorem bound_May_eq (hv : Small k v) (hk : 1000 < k) (hL : L.length < k) (hP : P.length < k) (ho : ∀ i : Nat, i < P.length → okI (aI P (i : Int)).First) (hrk : r.length < k) (hr : ∀ i : Nat, i < r.length → okI (aI r (i : Int))) : bound_May k (BoundState.mk v L P r) = some (dB (StateP v L P r)) := by
  obtain ⟨S, e, _⟩ := bound_in_eq hv hk hL hP ho hrk hr
  unfold bound_May
  rw [bindS e]
/-- The range over the map, in every order. -/
theorem mrun_all {good : Int × Int → Prop} {step : Int × Int → Unit → Option (Ex Unit (Ex Unit Bool))} {fin : Unit → Option (Ex Unit Bool)} (hf : fin () = some (.go ())) : ∀ σ : List (Int × Int), (∀ p, p ∈ σ → step p () = some (if dB (good p) = true then .go () else .rt (.rt false))) → mrun step fin σ () = some (if dB (∀ p, p ∈ σ → good p) = true then .go () else .rt false)
  | [], _ => by rw [mrun, hf, dB_T (fun p h => by cases h), if_pos rfl]
  | p :: σ, h => by
    rw [mrun, h p (by simp)]
    rcases Classical.em (good p) with hg | hg
    · rw [dB_T hg, if_pos rfl]
      have ih := mrun_all hf σ (fun q hq => h q (by simp [hq]))
      show mrun step fin σ () = _
      rw [ih]
      have e : dB (∀ p, p ∈ σ → good p) = dB (∀ q, q ∈ p :: σ → good q) := by
        rw [Bool.eq_iff_iff, dB_iff, dB_iff]
        exact ⟨fun a q hq => by rcases List.mem_cons.1 hq with rfl | hq; exact hg; exact a q hq, fun a q hq => a q (by simp [hq])⟩
      rw [e]
    · rw [dB_F hg, if_neg (by simp), dB_F (p := ∀ q, q ∈ p :: σ → good q) (fun a => hg (a p (by simp))), if_neg (by simp)]
      rfl
theorem mrange_all {good : Int × Int → Prop} {step : Int × Int → Unit → Option (Ex Unit (Ex Unit Bool))} {fin : Unit → Option (Ex Unit Bool)} (hf : fin () = some (.go ())) (σ : List (Int × Int)) (h : ∀ p, p ∈ σ → step p () = some (if dB (good p) = true then .go () else .rt (.rt false))) : mrange step fin σ () = some (if dB (∀ p, p ∈ σ → good p) = true then .go () else .rt false) := by
  refine mrange_of fun τ hτ => ?_
  rw [mrun_all hf τ (fun p hp => h p (hτ.mem_iff.1 hp))]
  have e : dB (∀ p, p ∈ τ → good p) = dB (∀ p, p ∈ σ → good p) := by
    rw [Bool.eq_iff_iff, dB_iff, dB_iff]
    exact ⟨fun a q hq => a q (hτ.mem_iff.2 hq), fun a q hq => a q (hτ.mem_iff.1 hq)⟩
  rw [e]
theorem bound_may_eq (hv : Small k v) (hk : 1000 < k) (hst : StateP v L P r) (hrk : r.length < k) {i : Int} (hi : 0 ≤ i ∧ i < L.length) {s : Int} (hs : plB v (aI L i) s = true) : bound_State_may k (BoundState.mk v L P r) (PlanSet.mk (PlaceHall.mk v (usL v)) L (pmN P P.length)) i s = some (dB (FreeP v L P r i s)) := by
  have hb := hv.b
  have hM := hst.inn.1
  have hrl := hst.len
  unfold bound_State_may
  have e := scanB (F := fun n j => bound_State_may_l0 k (BoundState.mk v L P r) (PlanSet.mk (PlaceHall.mk v (usL v)) L (pmN P P.length)) i s n (j : Int)) (len := r.length) (k := k) (fun j => ¬ aI r (j : Int) = -1 → aptB v (aI L i) s (aI L (j : Int)) (aI r (j : Int)) = true) (t := ()) (r := false)
    (fun n j hj _ hg => by
      rw [bound_State_may_l0]
      simp only
      rw [condD (by omega), bindS (idx_aI (by omega) (by omega)), wr_succ (by omega)]
      by_cases h1 : aI r (j : Int) = -1
      · rw [condN (by omega)]
      · have h0 := hst.ge hv hj h1
        rw [condD h0, bindS (idx_aI hi.1 hi.2), bindS (idx_aI (l := L) (by omega) (by omega)), bindS (hall_Apart hv hM hk hs ((hst.at_ j hj).pl h1)), hg h1, cNT])
    (fun n j hj _ hg => by
      obtain ⟨h1, h2⟩ := Classical.not_imp.1 hg
      have h0 := hst.ge hv hj h1
      rw [bound_State_may_l0]
      simp only
      rw [condD (by omega), bindS (idx_aI (by omega) (by omega)), condD h0, bindS (idx_aI hi.1 hi.2), bindS (idx_aI (l := L) (by omega) (by omega)), bindS (hall_Apart hv hM hk hs ((hst.at_ j hj).pl h1)), Bool.eq_false_iff.2 h2, cNF])
    (fun n _ => by
      rw [bound_State_may_l0]
      simp only
      rw [condN (by omega)]) hrk
  have e : bound_State_may_l0 k (BoundState.mk v L P r) (PlanSet.mk (PlaceHall.mk v (usL v)) L (pmN P P.length)) i s k 0 = _ := e
  rw [bindS e]
  rcases Classical.em (∀ j : Nat, j < r.length → ¬ aI r (j : Int) = -1 → aptB v (aI L i) s (aI L (j : Int)) (aI r (j : Int)) = true) with h | h
  · rw [dB_T h, if_pos rfl, elim_go]
    unfold bound_State_may_l1
    simp only
    rw [bindS (mrange_all (good := fun p => ¬ p.1 = i → aptB v (aI L i) s (aI L p.1) p.2 = true) rfl (pmN P P.length) (fun p hp => by
      obtain ⟨j, hj, rfl⟩ := (pmN_mem hst.inn.2.1.rise (Nat.le_refl _)).1 hp
      have hG := hst.inn.2.1 j hj
      unfold bound_State_may_l1_st
      simp only
      by_cases h1 : (aI P (j : Int)).Party = i
      · rw [condNT h1, dB_T (fun x => absurd h1 x), if_pos rfl]
      · rw [condNF h1, bindS (idx_aI hi.1 hi.2), bindS (idx_aI hG.lo hG.hi), bindS (hall_Apart hv hM hk hs hG.pl)]
        cases ha : aptB v (aI L i) s (aI L (aI P (j : Int)).Party) (aI P (j : Int)).First
        · rw [cNF, dB_F (fun x => by have := x h1; cases this), if_neg (by simp)]
        · rw [cNT, dB_T (fun _ => rfl), if_pos rfl]))]
    have e2 : dB (∀ p, p ∈ pmN P P.length → ¬ p.1 = i → aptB v (aI L i) s (aI L p.1) p.2 = true) = dB (FreeP v L P r i s) := by
      rw [Bool.eq_iff_iff, dB_iff, dB_iff]
      constructor
      · intro a
        have hm : ∀ j : Nat, j < P.length → ((aI P (j : Int)).Party, (aI P (j : Int)).First) ∈ pmN P P.length := fun j hj => (pmN_mem hst.inn.2.1.rise (Nat.le_refl _)).2 ⟨j, hj, rfl⟩
        exact ⟨h, fun j hj hn => a ((aI P (j : Int)).Party, (aI P (j : Int)).First) (hm j hj) hn⟩
      · intro a p hp hn
        obtain ⟨j, hj, rfl⟩ := (pmN_mem hst.inn.2.1.rise (Nat.le_refl _)).1 hp
        exact a.pins j hj hn
    rw [e2]
    cases dB (FreeP v L P r i s)
    · rw [if_neg (by simp), elim_rt]
    · rw [if_pos rfl, elim_go]
  · rw [dB_F h, if_neg (by simp), elim_rt, dB_F (fun x => h x.plan)]
/- the strike-out -/
theorem delete_l0 {F : Int → Option Bool} {b : Int → Bool} {l : List Int} (hF : ∀ x, x ∈ l → F x = some (b x)) (hl : l.length ≤ 4294967290) : ∀ (d n j : Nat) (g : List Int) (m : Nat), j + d = l.length → d < n → g.length = l.length → m ≤ j → (g.take m = (l.take j).filter (fun x => !b x)) → g.drop j = l.drop j →
    ∃ g' m', slices_DeleteFunc_int_l0 k F n g (m : Int) (j : Int) = some (g', ((m' : Nat) : Int)) ∧ g'.length = l.length ∧ m' ≤ l.length ∧ g'.take m' = l.filter (fun x => !b x)
  | d, 0, j, g, m, _, h, _, _, _, _ => absurd h (by omega)
  | 0, n + 1, j, g, m, hj, _, hg, hm, h1, _ => by
    rw [slices_DeleteFunc_int_l0, condN (by omega)]
    exact ⟨g, m, rfl, hg, by omega, by rw [h1, show j = l.length by omega, List.take_length]⟩
  | d + 1, n + 1, j, g, m, hj, hd, hg, hm, h1, h2 => by
    have hgj : aI g (j : Int) = aI l (j : Int) := by
      have a := drop_aI (l := g) (i := j) (by omega)
      have c := drop_aI (l := l) (i := j) (by omega)
      rw [h2, c] at a
      exact (List.cons.inj a).1.symm
    have hd2 : g.drop (j + 1) = l.drop (j + 1) := by
      have a := drop_aI (l := g) (i := j) (by omega)
      have c := drop_aI (l := l) (i := j) (by omega)
      rw [h2, c] at a
      exact (List.cons.inj a).2.symm
    have htk : l.take (j + 1) = l.take j ++ [aI l (j : Int)] := by
      rw [List.take_add_one, List.getElem?_eq_getElem (by omega)]
      congr 1
      unfold aI
      rw [Int.toNat_natCast, List.getD_eq_getElem?_getD, List.getElem?_eq_getElem (by omega)]
      rfl
    rw [slices_DeleteFunc_int_l0, condD (by omega), bindS (idx_aI (by omega) (by omega)), hgj, bindS (hF _ (aI_mem (by omega) (by omega))), wr_succ (i := j) (by omega)]
    cases hb : b (aI l (j : Int))
    · rw [cNF, bindS (idx_aI (by omega) (by omega)), wr_succ (i := m) (by omega), Int.toNat_natCast]
      refine delete_l0 hF hl d n (j + 1) (g.set m (aI l (j : Int))) (m + 1) (by omega) (by omega) (by rw [List.length_set, hg]) (by omega) ?_ ?_
      · rw [htk, List.filter_append, ← h1, List.take_add_one, List.take_set_of_le (Nat.le_refl _), List.getElem?_set_self (by omega)]
        simp [hb]
      · rw [List.drop_set_of_lt (by omega), hd2]
    · rw [cNT]
      refine delete_l0 hF hl d n (j + 1) g m (by omega) (by omega) hg (by omega) ?_ hd2
      rw [htk, List.filter_append, ← h1]
      simp [hb]
theorem deleteFunc_eq {F : Int → Option Bool} {b : Int → Bool} {l : List Int} (hF : ∀ x, x ∈ l → F x = some (b x)) (hk : l.length < k) (hb : k ≤ 4294967290) : slices_DeleteFunc_int k l F = some (l.filter (fun x => !b x)) := by
  unfold slices_DeleteFunc_int slices_IndexFunc_int
  have e := scanF0 (F := fun n i => slices_IndexFunc_int_l0 k l F n (i : Int)) (len := l.length) (k := k) (fun i => b (aI l (i : Int)) = false) (t := ()) (fun i => (i : Int))
    (fun n i hi _ hg => by
      rw [slices_IndexFunc_int_l0, condD (by omega), bindS (idx_aI (by omega) (by omega)), bindS (hF _ (aI_mem (by omega) (by omega))), wr_succ (by omega), hg]
      rfl)
    (fun n i hi _ hg => by
      rw [slices_IndexFunc_int_l0, condD (by omega), bindS (idx_aI (by omega) (by omega)), bindS (hF _ (aI_mem (by omega) (by omega))), eq_true_of_ne_false hg]
      rfl)
    (fun n _ => by
      rw [slices_IndexFunc_int_l0, condN (by omega)]) hk
  have e : slices_IndexFunc_int_l0 k l F k 0 = _ := e
  rw [e]
  rcases Classical.em (∀ j : Nat, j < l.length → b (aI l (j : Int)) = false) with h | h
  · rw [if_pos (fstF_all.2 h), bindS (x := Option.bind _ _) (by rw [bindS rfl, elim_go]), condD rfl]
    congr 1
    refine (List.filter_eq_self.2 fun x hx => ?_).symm
    obtain ⟨i, hi, rfl⟩ := mem_aI hx
    rw [h i hi]
    rfl
  · have hm : ∃ m : Nat, m < l.length ∧ (∀ j : Nat, j < m → b (aI l (j : Int)) = false) ∧ ¬ b (aI l (m : Int)) = false := by
      have key : ∀ n : Nat, n ≤ l.length → (∀ j : Nat, j < n → b (aI l (j : Int)) = false) ∨ ∃ m : Nat, m < n ∧ (∀ j : Nat, j < m → b (aI l (j : Int)) = false) ∧ ¬ b (aI l (m : Int)) = false := by
        intro n
        induction n with
        | zero => intro _; exact .inl fun j hj => absurd hj (by omega)
        | succ n ih =>
          intro hn
          rcases ih (by omega) with a | ⟨m, a1, a2⟩
          · by_cases hb : b (aI l (n : Int)) = false
            · refine .inl fun j hj => ?_
              rcases Nat.lt_or_ge j n with q | q
              · exact a j q
              · rw [show j = n by omega]; exact hb
            · exact .inr ⟨n, by omega, a, hb⟩
          · exact .inr ⟨m, by omega, a2⟩
      rcases key l.length (Nat.le_refl _) with a | a
      · exact absurd a h
      · exact a
    obtain ⟨m, h1, h2, h3⟩ := hm
    have hf : fstF (fun i : Nat => b (aI l (i : Int)) = false) l.length 0 = (m : Int) := fstF_at (by omega) (by omega) (fun i _ hi => h2 i hi) h3
    have htk : (l.take m).filter (fun x => !b x) = l.take m := List.filter_eq_self.2 fun x hx => by
      obtain ⟨i, hi, rfl⟩ := mem_aI hx
      rw [List.length_take] at hi
      have : aI (l.take m) (i : Int) = aI l (i : Int) := by
        unfold aI
        rw [Int.toNat_natCast, List.getD_eq_getElem?_getD, List.getD_eq_getElem?_getD, List.getElem?_take_of_lt (by omega)]
      rw [this, h2 i (by omega)]
      rfl
    have htk1 : (l.take (m + 1)).filter (fun x => !b x) = l.take m := by
      rw [List.take_add_one, List.filter_append, htk, List.getElem?_eq_getElem h1]
      have : b l[m] = true := by
        have hb1 := eq_true_of_ne_false h3
        unfold aI at hb1
        rw [Int.toNat_natCast, List.getD_eq_getElem?_getD, List.getElem?_eq_getElem h1] at hb1
        exact hb1
      simp [this]
    obtain ⟨g', m', e2, hg1, hg2, hg3⟩ := delete_l0 (k := k) hF (by omega) (l.length - (m + 1)) k (m + 1) l m (by omega) (by omega) rfl (by omega) htk1.symm rfl
    rw [hf, if_neg (by omega), bindS (x := Option.bind _ _) (by rw [bindS rfl, elim_rt]), Int.toNat_natCast, condN (by omega), wr_succ (i := m) (by omega), bindS e2]
    simp only
    rw [gdD (by omega), gdD (by omega), Int.toNat_natCast, List.take_take, Nat.min_self, hg3]
theorem filter_one {l : List Int} (hl : l.Pairwise (· < ·)) {p : Int → Bool} {f : Int} (hf : f ∈ l) (hp : ∀ s, p s = true → s = f) : l.filter p = if p f = true then [f] else [] := by
  induction l with
  | nil => cases hf
  | cons x l ih =>
    rw [List.pairwise_cons] at hl
    rw [List.filter_cons]
    rcases List.mem_cons.1 hf with rfl | h
    · have hn : l.filter p = [] := List.filter_eq_nil_iff.2 fun s hs h => by
        have := hl.1 s hs
        have := hp s h
        omega
      rw [hn]
    · have hx : ¬ p x = true := fun h' => by
        have := hl.1 f h
        have := hp x h'
        omega
      rw [if_neg hx]
      exact ih hl.2 h
theorem allV_sorted (p : Party) : (allV v p).Pairwise (· < ·) := by
  unfold allV
  cases mayB v
  · exact List.Pairwise.nil
  · exact allL_sorted _ _ _
theorem bound_open_eq (hv : Small k v) (hk : 1000 < k) (hst : StateP v L P r) (hrk : r.length < k) {i : Int} (hi : 0 ≤ i ∧ i < L.length) : bound_State_open k (BoundState.mk v L P r) (PlanSet.mk (PlaceHall.mk v (usL v)) L (pmN P P.length)) i = some (openL v L P r i) := by
  have hb := hv.b
  have hM := hst.inn.1
  unfold bound_State_open openL
  simp only
  have hpin : mget (pmN P P.length) i = pinAt P i := rfl
  rw [hpin]
  cases hp : pinAt P i with
  | some f =>
    obtain ⟨j, hj, h1, h2⟩ := pinAt_some hp
    have hG := hst.inn.2.1 j hj
    have hpl := hG.pl
    rw [h1, h2] at hpl
    rw [Option.isSome_some, cond_true, Option.getD_some, bindS (bound_may_eq hv hk hst hrk hi hpl), filter_one (allV_sorted _) (f := f) ((allV_mem hv).2 hpl) (fun s hs => (dB_iff.1 hs).2 f rfl)]
    rcases Classical.em (FreeP v L P r i f) with h | h
    · rw [dB_T h, dB_T ⟨h, fun f' e => by cases e; rfl⟩]
      rfl
    · rw [dB_F h, dB_F (fun x => h x.1)]
      rfl
  | none =>
    have hall : place_Hall_All k (PlaceHall.mk v (usL v)) (aI L i) = some (allV v (aI L i)) := by
      rw [place_Hall_All_eq _ hv.hs hb hk]
      unfold allV
      rw [mayB_iff.2 hM]
      rfl
    have hal := allV_len v (aI L i)
    have hN := hv.hs
    rw [Option.isSome_none, cond_false, bindS (idx_aI hi.1 hi.2), bindS hall, bindS (deleteFunc_eq (b := fun s => !dB (FreeP v L P r i s)) (fun s hs => by
      unfold bound_State_open_1
      rw [bindS (bound_may_eq hv hk hst hrk hi ((allV_mem hv).1 hs))]) (by omega) hb)]
    congr 1
    refine List.filter_congr fun s hs => ?_
    rw [Bool.not_not, Bool.eq_iff_iff, dB_iff, dB_iff]
    exact ⟨fun h => ⟨h, fun f e => by cases e⟩, fun h => h.1⟩
end
end Go.Px

set_option linter.unusedVariables false
set_option linter.unusedSimpArgs false
namespace Go.Px
open Go Go.Sh
theorem aI_take {α : Type} [Inhabited α] {l : List α} {n : Nat} {x : Int} (h0 : 0 ≤ x) (h : x < (n : Int)) : aI (l.take n) x = aI l x := by
  unfold aI
  rw [List.getD_eq_getElem?_getD, List.getD_eq_getElem?_getD, List.getElem?_take_of_lt (by omega)]
section
variable {k : Nat} {v : Venue} {L : List Party} {P : List Pin} {r : List Int}
theorem openL_mem (hv : Small k v) {i s : Int} : s ∈ openL v L P r i ↔ plB v (aI L i) s = true ∧ FreeP v L P r i s ∧ ∀ f, pinAt P i = some f → s = f := by
  unfold openL
  rw [List.mem_filter, allV_mem hv, dB_iff]
theorem openL_len {i : Int} : (openL v L P r i).length ≤ v.Seats.length := by
  unfold openL
  have := List.length_filter_le (fun s => dB (FreeP v L P r i s ∧ ∀ f, pinAt P i = some f → s = f)) (allV v (aI L i))
  have := allV_len v (aI L i)
  omega
theorem bound_Open_eq (hv : Small k v) (hk : 1000 < k) (hL : L.length < k) (hP : P.length < k) (ho : ∀ i : Nat, i < P.length → okI (aI P (i : Int)).First) (hrk : r.length < k) (hr : ∀ i : Nat, i < r.length → okI (aI r (i : Int))) (i : Int) :
    bound_Open k (BoundState.mk v L P r) i = some (if dB (StateP v L P r ∧ (r.length : Int) ≤ i ∧ i < L.length) = true then openL v L P r i else []) := by
  obtain ⟨S, e, hS⟩ := bound_in_eq hv hk hL hP ho hrk hr
  unfold bound_Open
  rw [bindS e]
  simp only
  rcases Classical.em (StateP v L P r) with h | h
  · rw [dB_T h, cNT]
    by_cases h1 : i < (r.length : Int)
    · rw [condD h1, bindS rfl, elim_rt, dB_F (fun x => by omega), if_neg (by simp)]
    rw [condN h1]
    by_cases h2 : (L.length : Int) ≤ i
    · rw [condD h2, bindS rfl, elim_rt, dB_F (fun x => by omega), if_neg (by simp)]
    · rw [condN h2, bindS rfl, elim_go, hS h, bindS (bound_open_eq hv hk h hrk ⟨by omega, by omega⟩), dB_T ⟨h, by omega, by omega⟩, if_pos rfl]
  · rw [dB_F h, cNF, bindS rfl, elim_rt, dB_F (fun x => h x.1), if_neg (by simp)]
theorem law13_told_eq : law13_told 20000 = some true := by decide +kernel
end
end Go.Px

set_option linter.unusedVariables false
set_option linter.unusedSimpArgs false
namespace Go.Px
open Go Go.Sh
section
variable {k : Nat} {v : Venue} {L : List Party} {P : List Pin} {r : List Int}
theorem PlanP.state (h : PlanP v L P r) {n : Nat} : StateP v L P (r.take n) := by
  have hl := h.len
  refine ⟨h.inn, by rw [List.length_take]; omega, fun i hi => ?_⟩
  rw [List.length_take] at hi
  have hG := h.at_ i (by omega)
  refine ⟨fun f hf => by rw [aI_take (by omega) (by omega)]; exact hG.pin f hf, fun hn => ?_, fun hn j hj hnj => ?_⟩
  · rw [aI_take (by omega) (by omega)] at hn ⊢
    exact hG.pl hn
  · rw [aI_take (by omega) (by omega)] at hn hnj ⊢
    rw [aI_take (by omega) (by omega)]
    exact hG.ap hn j hj hnj
theorem PlanP.open (hv : Small k v) (h : PlanP v L P r) {n i : Nat} (hn : n ≤ i) (hi : i < L.length) (h1 : ¬ aI r (i : Int) = -1) : aI r (i : Int) ∈ openL v L P (r.take n) (i : Int) := by
  have hl := h.len
  have hG := h.at_ i (by omega)
  refine (openL_mem hv).2 ⟨hG.pl h1, ⟨fun j hj hnj => ?_, fun j hj hne => ?_⟩, hG.pin⟩
  · rw [List.length_take] at hj
    rw [aI_take (by omega) (by omega)] at hnj ⊢
    exact hG.ap h1 j (by omega) hnj
  · have hPG := h.inn.2.1 j hj
    have hh := h.held hj
    have h0 := hPG.lo
    have h2 := hPG.hi
    have h3 := (plB_in hv hPG.pl).2.2.1
    obtain ⟨x, hx⟩ := Int.eq_ofNat_of_zero_le h0
    have hx : (aI P (j : Int)).Party = (x : Int) := hx
    rw [hx] at hh hne h2 ⊢
    rw [← hh] at h3 ⊢
    rcases Nat.lt_or_ge x i with q | q
    · exact hG.ap h1 x q (by omega)
    · rw [aptB_symm]
      exact (h.at_ x (by omega)).ap (by omega) i (by omega) h1
structure BCtx (v : Venue) (L : List Party) (P : List Pin) : Prop where
  pr : Prob v L
  l4 : P.length ≤ 4
  ok : PinOK v L P
theorem BCtx.small (h : BCtx v L P) : Small 20000 v := h.pr.small (by omega) (by omega)
theorem BCtx.open (h : BCtx v L P) (hs : StateP v L P r) (hr : ∀ i : Nat, i < r.length → okI (aI r (i : Int))) {i : Int} (hi : (r.length : Int) ≤ i ∧ i < L.length) : bound_Open 20000 (BoundState.mk v L P r) i = some (openL v L P r i) := by
  have := h.pr.l4
  have := h.l4
  have := hs.len
  rw [bound_Open_eq h.small (by omega) (by omega) (by omega) (pins_ok h.small h.ok) (by omega) hr, dB_T ⟨hs, hi⟩, if_pos rfl]
theorem StateP.ok (hv : Small k v) (h : StateP v L P r) : ∀ i : Nat, i < r.length → okI (aI r (i : Int)) := fun i hi => by
  by_cases h1 : aI r (i : Int) = -1
  · rw [h1]; exact ⟨by omega, by omega⟩
  · obtain ⟨_, h1, h2, h3⟩ := plB_in hv ((h.at_ i hi).pl h1)
    have := hv.hs
    have := hv.b
    exact ⟨by omega, by omega⟩
end
end Go.Px

set_option linter.unusedVariables false
set_option linter.unusedSimpArgs false
namespace Go.Px
open Go Go.Sh
section
variable {k : Nat} {v : Venue} {L : List Party} {P : List Pin} {r : List Int}
theorem openL_pin (hv : Small k v) {i f : Int} (hp : pinAt P i = some f) (hf : f ∈ openL v L P r i) : openL v L P r i = [f] := by
  have hm := hf
  unfold openL at hf ⊢
  rw [List.mem_filter] at hf
  rw [filter_one (allV_sorted _) hf.1 (fun s hs => (dB_iff.1 hs).2 f hp), if_pos hf.2]
theorem BoundPins_true (a0 : List Int) (h0 : okLI a0) (a1 : List Int) (h1 : okLI a1) (a2 : Int) (h2 : okI a2) (a3 : Int) (h3 : okI a3) (a4 : Int) (h4 : okI a4) : ∃ k, law13_BoundPins k a0 a1 a2 a3 a4 = some true := by
  refine ⟨20000, ?_⟩
  obtain ⟨v, L, e, hp⟩ := law12_Small_eq (k := 20000) a0 a1 (by omega)
  have hv := hp.small (k := 20000) (by omega) (by omega)
  obtain ⟨P, e3, hPl, hP⟩ := law12_Pins_eq hp (k := 20000) (by omega) (by omega) a2
  obtain ⟨R, e5, hR, hRl⟩ := ref15_Plans_eq hp (k := 20000) (by omega) (by omega) (P := P) hPl
  have hc : BCtx v L P := ⟨hp, hPl, hP⟩
  have h4 := hp.l4
  have hn := hp.n1
  have hR0 : 0 < R.length := by
    obtain ⟨m, hm, _⟩ := mem_aI ((hR _).2 (pinPlan_P hv (hp.inn hP)))
    omega
  unfold law13_BoundPins
  rw [bindS e]
  simp only
  obtain ⟨u0, u1⟩ := um a3 (R.length : Int) (by omega)
  have hw : IntKind.u64.wrap (R.length : Int) = (R.length : Int) := wu_id (by omega) (by omega)
  rw [bindS e3, bindS e5, condN (by omega), gdD (by rw [hw]; omega), hw, bindS (idx_aI u0 u1)]
  have hr := (hR _).1 (aI_mem (l := R) u0 u1)
  generalize aI R ((IntKind.u64.wrap a3).tmod (R.length : Int)) = r at hr
  have hrl := hr.len
  have hw2 : IntKind.u64.wrap (wr ((L.length : Int) + 1)) = (L.length : Int) + 1 := by rw [wr_id (by omega) (by omega), wu_id (by omega) (by omega)]
  obtain ⟨x0, x1⟩ := um a4 ((L.length : Int) + 1) (by omega)
  obtain ⟨t, hte⟩ := Int.eq_ofNat_of_zero_le x0
  have hte : (IntKind.u64.wrap a4).tmod ((L.length : Int) + 1) = (t : Int) := hte
  have hwr : wr ((IntKind.u64.wrap a4).tmod (IntKind.u64.wrap (wr ((L.length : Int) + 1)))) = (t : Int) := by rw [hw2, hte]; exact wr_id (by omega) (by omega)
  have hstt := hr.state (n := t)
  have htl : (r.take t).length = t := by rw [List.length_take]; omega
  have hs : slc r 0 (t : Int) = some (r.take t) := by
    rw [slc_eq ⟨by omega, by omega, by omega⟩, show (t : Int).toNat - (0 : Int).toNat = t by omega]
    rfl
  rw [gdD (by rw [hw2]; omega), hwr, bindS hs]
  have e0 := scan_go (f := fun n i => law13_BoundPins_l0 20000 a4 (v, L) P (r.take t) n i) (len := P.length) (good := fun _ => True)
    (fun n i hi _ => by
      show law13_BoundPins_l0 20000 a4 (v, L) P (r.take t) (n + 1) (i : Int) = _
      have hG := hP i hi
      rw [law13_BoundPins_l0]
      simp only
      rw [condD (by omega), bindS (idx_aI (by omega) (by omega)), hwr, wr_succ (by omega)]
      by_cases h : (t : Int) ≤ (aI P (i : Int)).Party
      · have hlo := hG.lo
        have hhi := hG.hi
        obtain ⟨x, hx⟩ := Int.eq_ofNat_of_zero_le hlo
        have hx : (aI P (i : Int)).Party = (x : Int) := hx
        have hheld := hr.held hi
        have hf0 := (plB_in hv hG.pl).2.2.1
        have hpin := pinAt_get hP.rise hi
        rw [hx] at hheld hpin
        have hmem := hr.open hv (n := t) (i := x) (by omega) (by omega) (by rw [hheld]; omega)
        rw [hheld] at hmem
        rw [condD h, bindS (idx_aI (by omega) (by omega)), bindS (hc.open hstt (hstt.ok hv) ⟨by omega, by omega⟩), bindS (idx_aI (by omega) (by omega)), hx, openL_pin hv hpin hmem, bindS (sameInts_refl _ _ (by simp) (by simp)), cNT]
      · rw [condN h])
    (fun n => by show law13_BoundPins_l0 20000 a4 (v, L) P (r.take t) (n + 1) _ = _; rw [law13_BoundPins_l0, condN (by omega)]) P.length 20000 0 (by omega) (by omega) (fun _ _ _ => trivial)
  have e0 : law13_BoundPins_l0 20000 a4 (v, L) P (r.take t) 20000 0 = _ := e0
  rw [bindS e0, elim_go]
  have e9 := scan_go (f := fun n i => law13_BoundPins_l9 20000 (v, L) P (r.take t) n i) (len := L.length) (good := fun i => t ≤ i)
    (fun n i hi ht => by
      show law13_BoundPins_l9 20000 (v, L) P (r.take t) (n + 1) (i : Int) = _
      have hol := openL_len (v := v) (L := L) (P := P) (r := r.take t) (i := (i : Int))
      have e12 := scan_go (f := fun n j => law13_BoundPins_l12 20000 (v, L) P (openL v L P (r.take t) (i : Int)) (i : Int) n j) (len := (openL v L P (r.take t) (i : Int)).length) (good := fun _ => True)
        (fun n j hj _ => by
          show law13_BoundPins_l12 20000 (v, L) P (openL v L P (r.take t) (i : Int)) (i : Int) (n + 1) (j : Int) = _
          have hm := (openL_mem hv).1 (aI_mem (l := openL v L P (r.take t) (i : Int)) (x := (j : Int)) (by omega) (by omega))
          have e13 := scan_go (f := fun n m => law13_BoundPins_l13 20000 (v, L) P (openL v L P (r.take t) (i : Int)) (i : Int) (j : Int) n m) (len := P.length) (good := fun _ => True)
            (fun n m hm' _ => by
              show law13_BoundPins_l13 20000 (v, L) P (openL v L P (r.take t) (i : Int)) (i : Int) (j : Int) (n + 1) (m : Int) = _
              have hG := hP m hm'
              rw [law13_BoundPins_l13]
              simp only
              rw [condD (by omega), bindS (idx_aI (by omega) (by omega)), wr_succ (by omega)]
              by_cases h : (aI P (m : Int)).Party = (i : Int)
              · rw [condNT h]
              · rw [condNF h, bindS (idx_aI (l := L) (by omega) (by omega)), bindS (idx_aI (by omega) (by omega)), bindS (idx_aI (by omega) (by omega)), bindS (idx_aI hG.lo hG.hi), bindS (idx_aI (by omega) (by omega)), bindS (ref6_Apart_eq hv (by omega) _ _), hm.2.1.pins m hm' h, cNT])
            (fun n => by show law13_BoundPins_l13 20000 (v, L) P (openL v L P (r.take t) (i : Int)) (i : Int) (j : Int) (n + 1) _ = _; rw [law13_BoundPins_l13, condN (by omega)]) P.length 20000 0 (by omega) (by omega) (fun _ _ _ => trivial)
          have e13 : law13_BoundPins_l13 20000 (v, L) P (openL v L P (r.take t) (i : Int)) (i : Int) (j : Int) 20000 0 = _ := e13
          rw [law13_BoundPins_l12, condD (by omega), bindS e13, elim_go, wr_succ (by omega)])
        (fun n => by show law13_BoundPins_l12 20000 (v, L) P (openL v L P (r.take t) (i : Int)) (i : Int) (n + 1) _ = _; rw [law13_BoundPins_l12, condN (by omega)]) (openL v L P (r.take t) (i : Int)).length 20000 0 (by omega) (by omega) (fun _ _ _ => trivial)
      have e12 : law13_BoundPins_l12 20000 (v, L) P (openL v L P (r.take t) (i : Int)) (i : Int) 20000 0 = _ := e12
      rw [law13_BoundPins_l9]
      simp only
      rw [condD (by omega), bindS (hc.open hstt (hstt.ok hv) ⟨by omega, by omega⟩), bindS e12, elim_go, wr_succ (by omega)])
    (fun n => by show law13_BoundPins_l9 20000 (v, L) P (r.take t) (n + 1) _ = _; rw [law13_BoundPins_l9, condN (by simp only; omega)]) (L.length - t) 20000 t (by omega) (by omega) (fun i a _ => a)
  have em := bound_May_eq (k := 20000) (L := L) (P := P) (r := r.take t) hv (by omega) (by omega) (by omega) (pins_ok hv hP) (by omega) (hstt.ok hv)
  rw [bindS e9, elim_go, bindS law13_told_eq, cond_true, bindS em, dB_T hstt]
end
end Go.Px
