/- Small problems, their pins, all their plans. -/
import Derived.Test.YtlfpkjlaajfjnaaPPlan
import Derived.Test.YtlfpkjlaajfjnaaPKillMore
set_option linter.unusedVariables false
set_option linter.unusedSimpArgs false
namespace Go.Px
open Go Go.Sh
theorem aI_lt {α : Type} [Inhabited α] {l m : List α} {i : Nat} (h : i < l.length) : aI (l ++ m) (i : Int) = aI l (i : Int) := by
  unfold aI
  rw [Int.toNat_natCast, List.getD_eq_getElem?_getD, List.getD_eq_getElem?_getD, List.getElem?_append_left h]
theorem aI_last {α : Type} [Inhabited α] {l : List α} {x : α} {i : Nat} (h : i = l.length) : aI (l ++ [x]) (i : Int) = x := by
  unfold aI
  rw [Int.toNat_natCast, List.getD_eq_getElem?_getD, h, List.getElem?_append_right (Nat.le_refl _), Nat.sub_self]
  rfl
theorem aI_set {α : Type} [Inhabited α] {l : List α} {i j : Nat} {x : α} (h : i < l.length) : aI (l.set i x) (j : Int) = if j = i then x else aI l (j : Int) := by
  unfold aI
  rw [Int.toNat_natCast, List.getD_eq_getElem?_getD, List.getD_eq_getElem?_getD]
  split
  · rename_i hj
    rw [hj, List.getElem?_set_self h]
    rfl
  · rename_i hj
    rw [List.getElem?_set_ne (fun e => hj e.symm)]
theorem aI_ext {α : Type} [Inhabited α] {l m : List α} (hl : l.length = m.length) (h : ∀ i : Nat, i < l.length → aI l (i : Int) = aI m (i : Int)) : l = m := by
  refine List.ext_getElem hl fun i h1 h2 => ?_
  have := h i h1
  unfold aI at this
  rw [Int.toNat_natCast, List.getD_eq_getElem?_getD, List.getD_eq_getElem?_getD, List.getElem?_eq_getElem h1, List.getElem?_eq_getElem h2] at this
  exact this
/-- A small problem. -/
structure Prob (v : Venue) (L : List Party) : Prop where
  may : MayV v
  n1 : v.Seats.length ≤ 9
  kl : v.Kills.length ≤ 9
  pl : v.Poles.length ≤ 9
  rad : InP v.Radius 0 24
  l4 : L.length ≤ 4
  ps : ∀ i : Nat, i < L.length → MayP (aI L (i : Int)) ∧ (aI L (i : Int)).Size ≤ 3
theorem Prob.all {v : Venue} {L : List Party} (h : Prob v L) : AllMay L := ⟨by have := h.l4; omega, fun i hi => (h.ps i hi).1⟩
theorem Prob.small {v : Venue} {L : List Party} (h : Prob v L) {k : Nat} (h1 : 9 < k) (h2 : k ≤ 4294967290) : Small k v := ⟨by have := h.n1; omega, by have := h.kl; omega, by have := h.pl; omega, h2, by omega⟩
theorem Prob.inn {v : Venue} {L : List Party} (h : Prob v L) {P : List Pin} (hP : PinOK v L P) : InOK v L P := ⟨h.may, hP, h.all⟩
theorem small_l0 (k : Nat) (l : List Int) : ∀ (d n i : Nat) (w : List Party), i + d = 4 → d < n → w.length = i → (∀ j : Nat, j < w.length → MayP (aI w (j : Int)) ∧ (aI w (j : Int)).Size ≤ 3) → ∃ o, law12_Small_l0 k l n w (i : Int) = some o ∧ o.length ≤ 4 ∧ ∀ j : Nat, j < o.length → MayP (aI o (j : Int)) ∧ (aI o (j : Int)).Size ≤ 3
  | d, 0, i, w, _, h, _, _ => absurd h (by omega)
  | 0, n + 1, i, w, hi, _, hw, hp => by
    rw [law12_Small_l0]
    by_cases h : (i : Int) < (l.length : Int)
    · rw [condD h, condN (by omega)]
      exact ⟨w, rfl, by omega, hp⟩
    · rw [condN h]
      exact ⟨w, rfl, by omega, hp⟩
  | d + 1, n + 1, i, w, hi, hd, hw, hp => by
    rw [law12_Small_l0]
    by_cases h : (i : Int) < (l.length : Int)
    · obtain ⟨u0, u1⟩ := um (aI l (i : Int)) 3 (by omega)
      rw [condD h, condD (by omega), bindS (idx_aI (by omega) h), wr_id (x := (IntKind.u64.wrap (aI l (i : Int))).tmod 3) (by omega) (by omega), wr_id (x := 1 + (IntKind.u64.wrap (aI l (i : Int))).tmod 3) (by omega) (by omega), wr_succ (by omega)]
      generalize (IntKind.u64.wrap (aI l (i : Int))).tmod 3 = q at u0 u1
      generalize ((IntKind.u64.wrap ((IntKind.u64.wrap (aI l (i : Int))).tdiv 3)).tmod 4) = q2
      have hgo : ∀ p : Party, MayP p ∧ p.Size ≤ 3 → ∃ o, (gd (decide (w.length + ([p]).length ≤ 4294967296)) (law12_Small_l0 k l n (w ++ [p]) ((i + 1 : Nat) : Int))) = some o ∧ o.length ≤ 4 ∧ ∀ j : Nat, j < o.length → MayP (aI o (j : Int)) ∧ (aI o (j : Int)).Size ≤ 3 := fun p hpp => by
        rw [gdD (by simp only [List.length_singleton]; omega)]
        refine small_l0 k l d n (i + 1) (w ++ [p]) (by omega) (by omega) (by simp [hw]) fun j hj => ?_
        rw [List.length_append, List.length_singleton] at hj
        by_cases hjw : j < w.length
        · rw [aI_lt hjw]; exact hp j hjw
        · rw [aI_last (by omega)]; exact hpp
      by_cases h2 : q2 = 0
      · rw [condD h2, bindS rfl]
        by_cases h3 : 1 < 1 + q
        · rw [condD h3]
          exact hgo _ ⟨⟨by simp only; omega, by simp only; omega, by simp only; omega, by simp only; omega, by simp only; omega⟩, by simp only; omega⟩
        · rw [condN h3]
          exact hgo _ ⟨⟨by simp only; omega, by simp only; omega, by simp only; omega, by simp only; omega, by simp only; omega⟩, by simp only; omega⟩
      · rw [condN h2, bindS rfl, cond_false]
        exact hgo _ ⟨⟨by simp only; omega, by simp only; omega, by simp only; omega, by simp only; omega, by simp only; omega⟩, by simp only; omega⟩
    · rw [condN h]
      exact ⟨w, rfl, by omega, hp⟩
theorem law12_Small_eq {k : Nat} (l m : List Int) (hk : 100 ≤ k) : ∃ v L, law12_Small k l m = some (v, L) ∧ Prob v L := by
  obtain ⟨v, e, hv⟩ := law3_Make_eq k l 9 (by omega) (by omega) (by omega)
  have e : law3_Make k l 9 = some v := e
  obtain ⟨L, eL, hL1, hL2⟩ := small_l0 k m 4 k 0 [] (by omega) (by omega) rfl (fun j hj => absurd hj (by simp))
  have eL : law12_Small_l0 k m k [] 0 = some L := eL
  have h6 : ∃ b, (cond (decide (0 < (m.length : Int))) (Option.bind (idx m 0) fun y10 => some (!decide ((y10.tmod 3) = 0))) (some false)) = some b := by
    by_cases h : 0 < (m.length : Int)
    · rw [condD h, bindS (idx_aI (by omega) h)]; exact ⟨_, rfl⟩
    · rw [condN h]; exact ⟨_, rfl⟩
  obtain ⟨b, eb⟩ := h6
  have h13 : ∃ r, cond b (some (v.Radius.tmod 12)) (some v.Radius) = some r ∧ InP r 0 24 := by
    have hr := hv.rad
    cases b
    · exact ⟨_, rfl, hr⟩
    · refine ⟨_, rfl, Int.tmod_nonneg _ hr.1, ?_⟩
      have := Int.tmod_lt_of_pos v.Radius (b := 12) (by omega)
      omega
  obtain ⟨r, er, hr⟩ := h13
  unfold law12_Small
  rw [bindS e, bindS eb, bindS er, bindS eL]
  have hM := hv.may
  exact ⟨_, _, rfl, ⟨hM.seats, hM.n0, hM.n1, hM.gap, by show InP r 0 1048576; omega, hM.kills, hM.k1, hM.poles, hM.p1⟩, hv.n1, hv.kl, hv.pl, hr, hL1, hL2⟩
theorem pins_ok {k : Nat} {v : Venue} {L : List Party} {P : List Pin} (hv : Small k v) (hP : PinOK v L P) : ∀ i : Nat, i < P.length → okI (aI P (i : Int)).First := fun i hi => by
  have h := hP i hi
  obtain ⟨_, h1, h2, h3⟩ := plB_in hv h.pl
  have := hv.hs
  have := hv.b
  exact ⟨by omega, by omega⟩
theorem PlanP.ok {k : Nat} {v : Venue} {L : List Party} {P : List Pin} {r : List Int} (hv : Small k v) (h : PlanP v L P r) : ∀ i : Nat, i < r.length → okI (aI r (i : Int)) := fun i hi => by
  by_cases h1 : aI r (i : Int) = -1
  · rw [h1]; exact ⟨by omega, by omega⟩
  · obtain ⟨_, h1, h2, h3⟩ := plB_in hv ((h.at_ i hi).pl h1)
    have := hv.hs
    have := hv.b
    exact ⟨by omega, by omega⟩
theorem pins_l0 {k : Nat} {v : Venue} {L : List Party} (hp : Prob v L) (hk : 1000 < k) (hb : k ≤ 4294967290) : ∀ (d n i : Nat) (P : List Pin) (m : Int), i + d = L.length → d < n → P.length ≤ i → PinOK v L P → ∃ P', law12_Pins_l0 k v L n P m (i : Int) = some P' ∧ P'.length ≤ 4 ∧ PinOK v L P'
  | d, 0, i, P, m, _, h, _, _ => absurd h (by omega)
  | 0, n + 1, i, P, m, hi, _, hl, hP => by
    have := hp.l4
    rw [law12_Pins_l0, condN (by omega)]
    exact ⟨P, rfl, by omega, hP⟩
  | d + 1, n + 1, i, P, m, hi, hd, hl, hP => by
    have h4 := hp.l4
    have hv := hp.small (k := k) (by omega) hb
    have hal := allV_len v (aI L (i : Int))
    have hn := hp.n1
    have hrec : ∀ (P : List Pin) (m : Int), P.length ≤ i + 1 → PinOK v L P → ∃ P', law12_Pins_l0 k v L n P m ((i + 1 : Nat) : Int) = some P' ∧ P'.length ≤ 4 ∧ PinOK v L P' := fun P m a b => pins_l0 hp hk hb d n (i + 1) P m (by omega) (by omega) a b
    rw [law12_Pins_l0, condD (by omega), bindS (idx_aI (by omega) (by omega)), bindS (ref6_AllPlaces_eq hv hk _), wr_succ (by omega)]
    by_cases h1 : m.tmod 3 = 0
    · rw [condNT h1]
      by_cases h2 : ((allV v (aI L (i : Int))).length : Int) = 0
      · rw [condD h2]
        exact hrec _ _ (by omega) hP
      · have hw : IntKind.u64.wrap ((allV v (aI L (i : Int))).length : Int) = ((allV v (aI L (i : Int))).length : Int) := wu_id (by omega) (by omega)
        obtain ⟨u0, u1⟩ := um (m.tdiv 3) ((allV v (aI L (i : Int))).length : Int) (by omega)
        rw [condN h2, gdD (by simp only [List.length_nil]; omega), gdD (by rw [hw]; omega), hw, bindS (idx_aI u0 u1), List.nil_append]
        generalize aI (allV v (aI L (i : Int))) ((IntKind.u64.wrap (m.tdiv 3)).tmod ((allV v (aI L (i : Int))).length : Int)) = f
        have hql : (P ++ [Pin.mk (i : Int) f]).length = P.length + 1 := by simp
        rw [gdD (by simp only [List.length_singleton]; omega), bindS (ref6_MayPins_eq hv hk (by omega) (by omega))]
        rcases Classical.em (InOK v L (P ++ [Pin.mk (i : Int) f])) with hq | hq
        · rw [dB_T hq, cond_true]
          exact hrec _ _ (by omega) hq.2.1
        · rw [dB_F hq, cond_false]
          exact hrec _ _ (by omega) hP
    · rw [condNF h1]
      exact hrec _ _ (by omega) hP
theorem law12_Pins_eq {k : Nat} {v : Venue} {L : List Party} (hp : Prob v L) (hk : 1000 < k) (hb : k ≤ 4294967290) (m : Int) : ∃ P, law12_Pins k v L m = some P ∧ P.length ≤ 4 ∧ PinOK v L P := by
  have := hp.l4
  obtain ⟨P, e, h⟩ := pins_l0 hp hk hb L.length k 0 [] (IntKind.u64.wrap m) (by omega) (by omega) (by simp) PinOK_nil
  have e : law12_Pins_l0 k v L k [] (IntKind.u64.wrap m) 0 = some P := e
  unfold law12_Pins
  rw [bindS e]
  exact ⟨P, rfl, h⟩
/- all plans -/
theorem allV_mem {k : Nat} {v : Venue} (hv : Small k v) {p : Party} {s : Int} : s ∈ allV v p ↔ plB v p s = true := by
  unfold allV plB
  cases mayB v
  · simp
  · rw [cond_true, Bool.true_and]
    unfold allL
    rw [List.mem_map]
    constructor
    · rintro ⟨a, h, rfl⟩
      exact (List.mem_filter.1 h).2
    · intro h
      have hN := hv.hs
      have hb := hv.b
      obtain ⟨h1, h2, h3, _⟩ := placeB_pos (by omega) h
      refine ⟨s.toNat, List.mem_filter.2 ⟨List.mem_range.2 (by omega), ?_⟩, by omega⟩
      rw [show ((s.toNat : Nat) : Int) = s by omega]
      exact h
noncomputable def nextP (v : Venue) (L : List Party) (i : Nat) (r : List Int) : List (List Int) := (allV v (aI L (i : Int)) ++ [-1]).map (fun s => r ++ [s])
noncomputable def allP (v : Venue) (L : List Party) : Nat → List (List Int)
  | 0 => [[]]
  | i + 1 => (allP v L i).flatMap (nextP v L i)
theorem nextP_len {v : Venue} {L : List Party} {i : Nat} {r : List Int} : (nextP v L i r).length ≤ v.Seats.length + 1 := by
  unfold nextP
  rw [List.length_map, List.length_append, List.length_singleton]
  have := allV_len v (aI L (i : Int))
  omega
theorem flat_len {α : Type} {f : α → List α} {c : Nat} : ∀ {l : List α}, (∀ x, x ∈ l → (f x).length ≤ c) → (l.flatMap f).length ≤ c * l.length
  | [], _ => by simp
  | x :: l, h => by
    rw [List.flatMap_cons, List.length_append, List.length_cons, Nat.mul_succ]
    have := h x (by simp)
    have := flat_len (l := l) (fun y hy => h y (by simp [hy]))
    omega
theorem allP_len {v : Venue} {L : List Party} (hn : v.Seats.length ≤ 9) : ∀ i : Nat, (allP v L i).length ≤ 10 ^ i
  | 0 => by simp [allP]
  | i + 1 => by
    have := allP_len hn (L := L) i
    have h2 := flat_len (f := nextP v L i) (c := 10) (l := allP v L i) (fun x _ => by have := nextP_len (v := v) (L := L) (i := i) (r := x); omega)
    rw [allP, Nat.pow_succ]
    omega
theorem mem_allP {v : Venue} {L : List Party} : ∀ {i : Nat} {r : List Int}, r ∈ allP v L i ↔ r.length = i ∧ ∀ j : Nat, j < i → aI r (j : Int) = -1 ∨ aI r (j : Int) ∈ allV v (aI L (j : Int))
  | 0, r => by
    rw [allP, List.mem_singleton]
    constructor
    · rintro rfl; exact ⟨rfl, fun j hj => absurd hj (by omega)⟩
    · rintro ⟨h, _⟩; exact List.length_eq_zero_iff.1 h
  | i + 1, r => by
    rw [allP, List.mem_flatMap]
    constructor
    · rintro ⟨r0, h0, h1⟩
      obtain ⟨a, b⟩ := mem_allP.1 h0
      unfold nextP at h1
      obtain ⟨s, hs, rfl⟩ := List.mem_map.1 h1
      refine ⟨by rw [List.length_append, List.length_singleton, a], fun j hj => ?_⟩
      by_cases h : j < i
      · rw [aI_lt (by omega)]; exact b j h
      · obtain rfl : j = i := by omega
        rw [aI_last a.symm]
        rcases List.mem_append.1 hs with h | h
        · exact .inr h
        · exact .inl (List.mem_singleton.1 h)
    · rintro ⟨h1, h2⟩
      have hr : r = r.take i ++ [aI r (i : Int)] := by
        refine aI_ext (by rw [List.length_append, List.length_take, List.length_singleton]; omega) fun j hj => ?_
        by_cases h : j < i
        · rw [aI_lt (by rw [List.length_take]; omega)]
          unfold aI
          rw [Int.toNat_natCast, List.getD_eq_getElem?_getD, List.getD_eq_getElem?_getD, List.getElem?_take_of_lt h]
        · obtain rfl : j = i := by omega
          rw [aI_last (by rw [List.length_take]; omega)]
      refine ⟨r.take i, mem_allP.2 ⟨by rw [List.length_take]; omega, fun j hj => ?_⟩, ?_⟩
      · have := h2 j (by omega)
        have e : aI (r.take i) (j : Int) = aI r (j : Int) := by
          unfold aI
          rw [Int.toNat_natCast, List.getD_eq_getElem?_getD, List.getD_eq_getElem?_getD, List.getElem?_take_of_lt hj]
        rw [e]
        exact this
      · unfold nextP
        refine List.mem_map.2 ⟨aI r (i : Int), ?_, hr.symm⟩
        rcases h2 i (by omega) with h | h
        · rw [h]; simp
        · exact List.mem_append_left _ h
theorem PlanP.mem {k : Nat} {v : Venue} {L : List Party} {P : List Pin} {r : List Int} (hv : Small k v) (h : PlanP v L P r) : r ∈ allP v L L.length := by
  refine mem_allP.2 ⟨h.len, fun j hj => ?_⟩
  rw [allV_mem hv]
  by_cases h1 : aI r (j : Int) = -1
  · exact .inl h1
  · exact .inr ((h.at_ j (by rw [h.len]; exact hj)).pl h1)
theorem range_map_aI {α β : Type} [Inhabited α] {l : List α} {f : α → β} : (List.range l.length).map (fun j : Nat => f (aI l (j : Int))) = l.map f := by
  refine List.ext_getElem (by simp) fun i h1 h2 => ?_
  simp at h1 h2 ⊢
  unfold aI
  rw [Int.toNat_natCast, List.getD_eq_getElem?_getD, List.getElem?_eq_getElem h1]
  rfl
theorem filter_yes {α : Type} (l : List α) : l.filter (fun _ => true) = l := List.filter_eq_self.2 (fun _ _ => rfl)
theorem plans_l12 {k : Nat} {M : List Int} {A : List (List Int)} {j : Nat} (hj : j < A.length) (hr : (aI A (j : Int)).length ≤ 1000) (hM : M.length ≤ 10000) (hk : 20000 ≤ k) (w : List (List Int)) (hw : w.length ≤ 4294000000) :
    ref15_Plans_l12 k M A (j : Int) k w 0 = some (w ++ (M ++ [-1]).map (fun s => aI A (j : Int) ++ [s])) := by
  have hl : (([] ++ M) ++ ([(-1)] : List Int)).length = M.length + 1 := by simp
  have e := gather0 (f := fun n a i => ref15_Plans_l12 k M A (j : Int) n a i) (len := M.length + 1) (c := 4294000000) (fun _ => true) (fun s : Nat => aI A (j : Int) ++ [aI (M ++ [-1]) (s : Int)])
    (fun n i w hi hw => by
      show ref15_Plans_l12 k M A (j : Int) (n + 1) w (i : Int) = ref15_Plans_l12 k M A (j : Int) n _ _
      rw [ref15_Plans_l12, condD (by rw [hl]; omega), bindS (idx_aI (by omega) (by omega)), gdD (by simp only [List.length_nil]; omega), bindS (idx_aI (by omega) (by rw [hl]; omega)), List.nil_append, List.nil_append, gdD (by simp only [List.length_singleton]; omega), gdD (by simp only [List.length_singleton]; omega), wr_succ (by omega), if_pos rfl])
    (fun n w => by show ref15_Plans_l12 k M A (j : Int) (n + 1) w _ = _; rw [ref15_Plans_l12, condN (by rw [hl]; omega)])
    (k := k) (by omega) w hw
  have e : ref15_Plans_l12 k M A (j : Int) k w 0 = _ := e
  rw [e, filter_yes]
  have h := range_map_aI (l := M ++ [-1]) (f := fun s => aI A (j : Int) ++ [s])
  rw [List.length_append, List.length_singleton] at h
  rw [h]
theorem drop_aI {α : Type} [Inhabited α] {l : List α} {i : Nat} (h : i < l.length) : l.drop i = aI l (i : Int) :: l.drop (i + 1) := by
  unfold aI
  rw [Int.toNat_natCast, List.getD_eq_getElem?_getD, List.getElem?_eq_getElem h]
  exact List.drop_eq_getElem_cons h
section
variable {k : Nat} {v : Venue} {L : List Party}
theorem plans_l11 (hp : Prob v L) (hk : 20000 ≤ k) (hb : k ≤ 4294967290) {i : Nat} (hi : i < L.length) {A : List (List Int)} (hA : A.length ≤ 10000) (hr : ∀ r, r ∈ A → r.length ≤ 1000) : ∀ (d n j : Nat) (w : List (List Int)), j + d = A.length → d < n → w.length ≤ 10 * j →
    ref15_Plans_l11 k v L A (i : Int) n w (j : Int) = some (w ++ (A.drop j).flatMap (nextP v L i))
  | d, 0, j, w, _, h, _ => absurd h (by omega)
  | 0, n + 1, j, w, hj, _, hw => by
    rw [ref15_Plans_l11, condN (by omega), List.drop_eq_nil_of_le (by omega)]
    simp
  | d + 1, n + 1, j, w, hj, hd, hw => by
    have hv := hp.small (k := k) (by omega) hb
    have hal := allV_len v (aI L (i : Int))
    have hn := hp.n1
    have hnl := nextP_len (v := v) (L := L) (i := i) (r := aI A (j : Int))
    rw [ref15_Plans_l11, condD (by omega), bindS (idx_aI (by omega) (by omega)), bindS (ref6_AllPlaces_eq hv (by omega) _), gdD (by simp only [List.length_nil]; omega), gdD (by simp only [List.nil_append, List.length_singleton]; omega), bindS (plans_l12 (by omega) (hr _ (aI_mem (by omega) (by omega))) (by omega) hk w (by omega)), wr_succ (by omega)]
    have h := plans_l11 hp hk hb hi hA hr d n (j + 1) (w ++ nextP v L i (aI A (j : Int))) (by omega) (by omega) (by rw [List.length_append]; omega)
    rw [drop_aI (l := A) (i := j) (by omega), List.flatMap_cons, ← List.append_assoc]
    exact h
theorem plans_l8 (hp : Prob v L) (hk : 20000 ≤ k) (hb : k ≤ 4294967290) : ∀ (d n i : Nat), i + d = L.length → d < n → ref15_Plans_l8 k v L n (allP v L i) (i : Int) = some (allP v L L.length)
  | d, 0, i, _, h => absurd h (by omega)
  | 0, n + 1, i, hi, _ => by
    rw [ref15_Plans_l8, condN (by omega), show i = L.length by omega]
  | d + 1, n + 1, i, hi, hd => by
    have h4 := hp.l4
    have hA := allP_len hp.n1 (L := L) i
    have hA2 : (10 : Nat) ^ i ≤ 10 ^ 4 := Nat.pow_le_pow_right (by omega) (by omega)
    have e := plans_l11 hp hk hb (i := i) (by omega) (A := allP v L i) (by omega) (fun r hr => by rw [(mem_allP.1 hr).1]; omega) (allP v L i).length k 0 [] (by omega) (by omega) (by simp)
    have e : ref15_Plans_l11 k v L (allP v L i) (i : Int) k [] 0 = _ := e
    rw [ref15_Plans_l8, condD (by omega), bindS e, wr_succ (by omega), List.drop_zero, List.nil_append]
    exact plans_l8 hp hk hb d n (i + 1) (by omega) (by omega)
theorem ref15_Plans_eq (hp : Prob v L) (hk : 20000 ≤ k) (hb : k ≤ 4294967290) {P : List Pin} (hP : P.length ≤ 4) : ∃ R, ref15_Plans k v L P = some R ∧ (∀ r, r ∈ R ↔ PlanP v L P r) ∧ R.length ≤ 10000 := by
  have h4 := hp.l4
  have hv := hp.small (k := k) (by omega) hb
  unfold ref15_Plans
  rw [bindS (ref6_MayPins_eq hv (by omega) (by omega) (by omega))]
  rcases Classical.em (InOK v L P) with h | h
  · have e := plans_l8 hp hk hb L.length k 0 (by omega) (by omega)
    have e : ref15_Plans_l8 k v L k [[]] 0 = _ := e
    have hA := allP_len hp.n1 (L := L) L.length
    have hA2 : (10 : Nat) ^ L.length ≤ 10 ^ 4 := Nat.pow_le_pow_right (by omega) (by omega)
    rw [dB_T h, cNT, bindS e]
    generalize hAd : allP v L L.length = A at hA
    have e2 := gather0 (f := fun n a i => ref15_Plans_l13 k v L P A n a i) (len := A.length) (c := 0) (fun j : Nat => dB (PlanP v L P (aI A (j : Int)))) (fun j : Nat => aI A (j : Int))
      (fun n i w hi hw => by
        show ref15_Plans_l13 k v L P A (n + 1) w (i : Int) = ref15_Plans_l13 k v L P A n _ _
        rw [ref15_Plans_l13, condD (by omega), bindS (idx_aI (by omega) (by omega)), bindS (ref6_MayPlan_eq hv (by omega) (by omega) (by omega)), wr_succ (by omega)]
        cases dB (PlanP v L P (aI A (i : Int)))
        · rw [cond_false, if_neg (by simp)]
        · rw [cond_true, bindS (idx_aI (by omega) (by omega)), gdD (by simp only [List.length_singleton]; omega), if_pos rfl])
      (fun n w => by show ref15_Plans_l13 k v L P A (n + 1) w _ = _; rw [ref15_Plans_l13, condN (by omega)])
      (k := k) (by omega) [] (by simp)
    have e2 : ref15_Plans_l13 k v L P A k [] 0 = _ := e2
    rw [bindS e2, List.nil_append]
    refine ⟨_, rfl, fun r => ?_, ?_⟩
    · rw [List.mem_map]
      constructor
      · rintro ⟨j, hj, rfl⟩
        exact dB_iff.1 (List.mem_filter.1 hj).2
      · intro hr
        have hm := hr.mem hv
        rw [hAd] at hm
        obtain ⟨j, hj, e⟩ := mem_aI hm
        exact ⟨j, List.mem_filter.2 ⟨List.mem_range.2 hj, by rw [e]; exact dB_T hr⟩, e⟩
    · rw [List.length_map]
      have := List.length_filter_le (fun j : Nat => dB (PlanP v L P (aI A (j : Int)))) (List.range A.length)
      rw [List.length_range] at this
      omega
  · rw [dB_F h, cNF]
    refine ⟨[], rfl, fun r => ?_, by simp⟩
    constructor
    · intro hr; cases hr
    · intro hr; exact absurd hr.inn h
/- persons -/
def seatN (L : List Party) (r : List Int) : Nat → Int
  | 0 => 0
  | n + 1 => seatN L r n + if 0 ≤ aI r (n : Int) then (aI L (n : Int)).Size else 0
theorem seatN_bd (hA : AllMay L) {r : List Int} : ∀ {n : Nat}, n ≤ L.length → 0 ≤ seatN L r n ∧ seatN L r n ≤ 8 * n
  | 0, _ => by rw [seatN]; omega
  | n + 1, h => by
    have := seatN_bd hA (r := r) (n := n) (by omega)
    have := hA.2 n (by omega)
    rw [seatN]
    split <;> omega
theorem plan_Seated_l0_eq (hA : AllMay L) {r : List Int} (hr : r.length ≤ L.length) : ∀ (d n i : Nat), i + d = r.length → d < n → plan_Seated_l0 k L r n (seatN L r i) (i : Int) = some (seatN L r r.length)
  | d, 0, i, _, h => absurd h (by omega)
  | 0, n + 1, i, hi, _ => by
    rw [plan_Seated_l0, condN (by omega), show i = r.length by omega]
  | d + 1, n + 1, i, hi, hd => by
    have h1 := hA.1
    have h2 := hA.2 i (by omega)
    have h3 := seatN_bd hA (r := r) (n := i) (by omega)
    have ih := plan_Seated_l0_eq hA hr d n (i + 1) (by omega) (by omega)
    rw [plan_Seated_l0, condD (by omega), bindS (idx_aI (by omega) (by omega)), wr_succ (by omega)]
    rw [seatN] at ih
    by_cases h : 0 ≤ aI r (i : Int)
    · rw [if_pos h] at ih
      rw [condD h, bindS (idx_aI (by omega) (by omega)), wr_id (by omega) (by omega), ih]
    · rw [if_neg h, Int.add_zero] at ih
      rw [condN h, ih]
theorem plan_Seated_eq (hA : AllMay L) (hk : 1000 < k) (hb : k ≤ 4294967290) {r : List Int} (hr : r.length = L.length) : plan_Seated k L r = some (seatN L r L.length) := by
  have h1 := hA.1
  unfold plan_Seated
  rw [condNT (by omega), bindS (party_All_eq (by omega) hb), dB_T hA, bindS rfl, cNT]
  have e := plan_Seated_l0_eq (k := k) hA (r := r) (by omega) r.length k 0 (by omega) (by omega)
  have e : plan_Seated_l0 k L r k 0 0 = _ := e
  rw [bindS e, hr]
end
end Go.Px
