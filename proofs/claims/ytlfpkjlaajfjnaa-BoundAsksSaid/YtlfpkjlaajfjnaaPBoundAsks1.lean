/- The plain law, in parts: Bound, Bounds, BoundAsks. -/
import Derived.Test.YtlfpkjlaajfjnaaPBoundAsks0
set_option linter.unusedVariables false
set_option linter.unusedSimpArgs false
namespace Go.Px
open Go Go.Sh
theorem mset_new {l : List (Int × Int)} {x v : Int} : mget l x = none → mset l x v = l ++ [(x, v)] := by
  induction l with
  | nil => intro _; rfl
  | cons p l ih =>
    intro h
    rw [mget_cons] at h
    split at h
    · cases h
    · rename_i hne
      rw [mset, if_neg hne, ih h]
      rfl
/-- The map of the pins has each pin once. -/
theorem pmN_mem {P : List Pin} (hP : RiseP P) {p : Int × Int} : ∀ {n : Nat}, n ≤ P.length → (p ∈ pmN P n ↔ ∃ i : Nat, i < n ∧ p = ((aI P (i : Int)).Party, (aI P (i : Int)).First))
  | 0, _ => by
    rw [pmN]
    exact ⟨fun h => (by cases h), fun ⟨i, h, _⟩ => absurd h (by omega)⟩
  | n + 1, hn => by
    have hnone : mget (pmN P n) (aI P (n : Int)).Party = none := by
      cases hm : mget (pmN P n) (aI P (n : Int)).Party with
      | none => rfl
      | some f =>
        obtain ⟨i, h1, h2, _⟩ := pmN_some hm
        have := hP i n h1 (by omega)
        omega
    rw [pmN, mset_new hnone, List.mem_append, pmN_mem hP (by omega), List.mem_singleton]
    constructor
    · rintro (⟨i, h1, h2⟩ | h)
      · exact ⟨i, by omega, h2⟩
      · exact ⟨n, by omega, h⟩
    · rintro ⟨i, h1, h2⟩
      rcases Nat.lt_or_ge i n with q | q
      · exact .inl ⟨i, q, h2⟩
      · right; rw [h2, show i = n by omega]
/-- A state that may be. -/
structure StateP (v : Venue) (L : List Party) (P : List Pin) (r : List Int) : Prop where
  inn : InOK v L P
  len : r.length ≤ L.length
  at_ : ∀ i, i < r.length → OkAt v L P r i
/-- A first seat of a party is free: beside all that is planned, and all that is pinned. -/
structure FreeP (v : Venue) (L : List Party) (P : List Pin) (r : List Int) (i : Int) (s : Int) : Prop where
  plan : ∀ j : Nat, j < r.length → ¬ aI r (j : Int) = -1 → aptB v (aI L i) s (aI L (j : Int)) (aI r (j : Int)) = true
  pins : ∀ j : Nat, j < P.length → ¬ (aI P (j : Int)).Party = i → aptB v (aI L i) s (aI L (aI P (j : Int)).Party) (aI P (j : Int)).First = true
/-- What is open for a party. -/
noncomputable def openL (v : Venue) (L : List Party) (P : List Pin) (r : List Int) (i : Int) : List Int := (allV v (aI L i)).filter fun s => dB (FreeP v L P r i s ∧ ∀ f, pinAt P i = some f → s = f)
section
variable {k : Nat} {v : Venue} {L : List Party} {P : List Pin} {r : List Int}
theorem StateP.ge (hv : Small k v) (h : StateP v L P r) {j : Nat} (hj : j < r.length) (hn : ¬ aI r (j : Int) = -1) : 0 ≤ aI r (j : Int) := (plB_in hv ((h.at_ j hj).pl hn)).2.2.1
theorem bound_in_eq (hv : Small k v) (hk : 1000 < k) (hL : L.length < k) (hP : P.length < k) (ho : ∀ i : Nat, i < P.length → okI (aI P (i : Int)).First) (hrk : r.length < k) (hr : ∀ i : Nat, i < r.length → okI (aI r (i : Int))) : ∃ S, bound_in k (BoundState.mk v L P r) = some (S, dB (StateP v L P r)) ∧ (StateP v L P r → S = PlanSet.mk (PlaceHall.mk v (usL v)) L (pmN P P.length)) := by
  unfold bound_in
  obtain ⟨S, e, hS⟩ := plan_In_eq hv hk hL hP ho
  have e : plan_In k (BoundState.mk v L P r).V (BoundState.mk v L P r).L (BoundState.mk v L P r).Pins = _ := e
  rw [bindS e]
  simp only
  rcases Classical.em (InOK v L P) with h | h
  · rw [dB_T h, cNT]
    by_cases hl : (L.length : Int) < (r.length : Int)
    · rw [condD hl, dB_F (fun x => by have := x.len; omega)]
      exact ⟨S, rfl, fun x => hS x.inn⟩
    · rw [condN hl, hS h, bindS (plan_Set_First_eq hv h.1 hk (by omega) hrk hr)]
      refine ⟨_, ?_, fun _ => rfl⟩
      congr 2
      unfold badI
      rcases Classical.em (∀ i, i < r.length → OkAt v L P r i) with hh | hh
      · rw [dB_T ⟨h, by omega, hh⟩, decide_eq_true (fstF_all.2 hh)]
      · rw [dB_F (fun x => hh x.at_), decide_eq_false (fun x => hh (fstF_all.1 x))]
  · rw [dB_F h, cNF, dB_F (fun x => h x.inn)]
    exact ⟨S, rfl, fun x => hS x.inn⟩
theorem bound_May_eq (hv : Small k v) (hk : 1000 < k) (hL : L.length < k) (hP : P.length < k) (ho : ∀ i : Nat, i < P.length → okI (aI P (i : Int)).First) (hrk : r.length < k) (hr : ∀ i : Nat, i < r.length → okI (aI r (i : Int))) : bound_May k (BoundState.mk v L P r) = some (dB (StateP v L P r)) := by
  obtain ⟨S, e, _⟩ := bound_in_eq hv hk hL hP ho hrk hr
  unfold bound_May
  rw [bindS e]
/-- The range over the map, in every order. -/
theorem mrun_all {good : Int × Int → Prop} {step : Int × Int → Unit → Option (Ex Unit (Ex Unit Bool))} {fin : Unit → Option (Ex Unit Bool)} (hf : fin () = some (.go ())) : ∀ σ : List (Int × Int), (∀ p, p ∈ σ → step p () = some (if dB (good p) = true then .go () else .rt (.rt false))) → mrun step fin σ () = some (if dB (∀ p, p ∈ σ → good p) = true then .go () else .rt false)
  | [], _ => by rw [mrun, hf, dB_T (fun p h => by cases h), if_pos rfl]
  | p :: σ, h => by
    rw [mrun, h p (by simp)]
    rcases Classical.em (good p) with hg | hg
    · rw [dB_T hg, if_pos rfl]
      have ih := mrun_all hf σ (fun q hq => h q (by simp [hq]))
      show mrun step fin σ () = _
      rw [ih]
      have e : dB (∀ p, p ∈ σ → good p) = dB (∀ q, q ∈ p :: σ → good q) := by
        rw [Bool.eq_iff_iff, dB_iff, dB_iff]
        exact ⟨fun a q hq => by rcases List.mem_cons.1 hq with rfl | hq; exact hg; exact a q hq, fun a q hq => a q (by simp [hq])⟩
      rw [e]
    · rw [dB_F hg, if_neg (by simp), dB_F (p := ∀ q, q ∈ p :: σ → good q) (fun a => hg (a p (by simp))), if_neg (by simp)]
      rfl
theorem mrange_all {good : Int × Int → Prop} {step : Int × Int → Unit → Option (Ex Unit (Ex Unit Bool))} {fin : Unit → Option (Ex Unit Bool)} (hf : fin () = some (.go ())) (σ : List (Int × Int)) (h : ∀ p, p ∈ σ → step p () = some (if dB (good p) = true then .go () else .rt (.rt false))) : mrange step fin σ () = some (if dB (∀ p, p ∈ σ → good p) = true then .go () else .rt false) := by
  refine mrange_of fun τ hτ => ?_
  rw [mrun_all hf τ (fun p hp => h p (hτ.mem_iff.1 hp))]
  have e : dB (∀ p, p ∈ τ → good p) = dB (∀ p, p ∈ σ → good p) := by
    rw [Bool.eq_iff_iff, dB_iff, dB_iff]
    exact ⟨fun a q hq => a q (hτ.mem_iff.2 hq), fun a q hq => a q (hτ.mem_iff.1 hq)⟩
  rw [e]
theorem bound_may_eq (hv : Small k v) (hk : 1000 < k) (hst : StateP v L P r) (hrk : r.length < k) {i : Int} (hi : 0 ≤ i ∧ i < L.length) {s : Int} (hs : plB v (aI L i) s = true) : bound_State_may k (BoundState.mk v L P r) (PlanSet.mk (PlaceHall.mk v (usL v)) L (pmN P P.length)) i s = some (dB (FreeP v L P r i s)) := by
  have hb := hv.b
  have hM := hst.inn.1
  have hrl := hst.len
  unfold bound_State_may
  have e := scanB (F := fun n j => bound_State_may_l0 k (BoundState.mk v L P r) (PlanSet.mk (PlaceHall.mk v (usL v)) L (pmN P P.length)) i s n (j : Int)) (len := r.length) (k := k) (fun j => ¬ aI r (j : Int) = -1 → aptB v (aI L i) s (aI L (j : Int)) (aI r (j : Int)) = true) (t := ()) (r := false)
    (fun n j hj _ hg => by
      rw [bound_State_may_l0]
      simp only
      rw [condD (by omega), bindS (idx_aI (by omega) (by omega)), wr_succ (by omega)]
      by_cases h1 : aI r (j : Int) = -1
      · rw [condN (by omega)]
      · have h0 := hst.ge hv hj h1
        rw [condD h0, bindS (idx_aI hi.1 hi.2), bindS (idx_aI (l := L) (by omega) (by omega)), bindS (hall_Apart hv hM hk hs ((hst.at_ j hj).pl h1)), hg h1, cNT])
    (fun n j hj _ hg => by
      obtain ⟨h1, h2⟩ := Classical.not_imp.1 hg
      have h0 := hst.ge hv hj h1
      rw [bound_State_may_l0]
      simp only
      rw [condD (by omega), bindS (idx_aI (by omega) (by omega)), condD h0, bindS (idx_aI hi.1 hi.2), bindS (idx_aI (l := L) (by omega) (by omega)), bindS (hall_Apart hv hM hk hs ((hst.at_ j hj).pl h1)), Bool.eq_false_iff.2 h2, cNF])
    (fun n _ => by
      rw [bound_State_may_l0]
      simp only
      rw [condN (by omega)]) hrk
  have e : bound_State_may_l0 k (BoundState.mk v L P r) (PlanSet.mk (PlaceHall.mk v (usL v)) L (pmN P P.length)) i s k 0 = _ := e
  rw [bindS e]
  rcases Classical.em (∀ j : Nat, j < r.length → ¬ aI r (j : Int) = -1 → aptB v (aI L i) s (aI L (j : Int)) (aI r (j : Int)) = true) with h | h
  · rw [dB_T h, if_pos rfl, elim_go]
    unfold bound_State_may_l1
    simp only
    rw [bindS (mrange_all (good := fun p => ¬ p.1 = i → aptB v (aI L i) s (aI L p.1) p.2 = true) rfl (pmN P P.length) (fun p hp => by
      obtain ⟨j, hj, rfl⟩ := (pmN_mem hst.inn.2.1.rise (Nat.le_refl _)).1 hp
      have hG := hst.inn.2.1 j hj
      unfold bound_State_may_l1_st
      simp only
      by_cases h1 : (aI P (j : Int)).Party = i
      · rw [condNT h1, dB_T (fun x => absurd h1 x), if_pos rfl]
      · rw [condNF h1, bindS (idx_aI hi.1 hi.2), bindS (idx_aI hG.lo hG.hi), bindS (hall_Apart hv hM hk hs hG.pl)]
        cases ha : aptB v (aI L i) s (aI L (aI P (j : Int)).Party) (aI P (j : Int)).First
        · rw [cNF, dB_F (fun x => by have := x h1; cases this), if_neg (by simp)]
        · rw [cNT, dB_T (fun _ => rfl), if_pos rfl]))]
    have e2 : dB (∀ p, p ∈ pmN P P.length → ¬ p.1 = i → aptB v (aI L i) s (aI L p.1) p.2 = true) = dB (FreeP v L P r i s) := by
      rw [Bool.eq_iff_iff, dB_iff, dB_iff]
      constructor
      · intro a
        have hm : ∀ j : Nat, j < P.length → ((aI P (j : Int)).Party, (aI P (j : Int)).First) ∈ pmN P P.length := fun j hj => (pmN_mem hst.inn.2.1.rise (Nat.le_refl _)).2 ⟨j, hj, rfl⟩
        exact ⟨h, fun j hj hn => a ((aI P (j : Int)).Party, (aI P (j : Int)).First) (hm j hj) hn⟩
      · intro a p hp hn
        obtain ⟨j, hj, rfl⟩ := (pmN_mem hst.inn.2.1.rise (Nat.le_refl _)).1 hp
        exact a.pins j hj hn
    rw [e2]
    cases dB (FreeP v L P r i s)
    · rw [if_neg (by simp), elim_rt]
    · rw [if_pos rfl, elim_go]
  · rw [dB_F h, if_neg (by simp), elim_rt, dB_F (fun x => h x.plan)]
/- the strike-out -/
theorem delete_l0 {F : Int → Option Bool} {b : Int → Bool} {l : List Int} (hF : ∀ x, x ∈ l → F x = some (b x)) (hl : l.length ≤ 4294967290) : ∀ (d n j : Nat) (g : List Int) (m : Nat), j + d = l.length → d < n → g.length = l.length → m ≤ j → (g.take m = (l.take j).filter (fun x => !b x)) → g.drop j = l.drop j →
    ∃ g' m', slices_DeleteFunc_int_l0 k F n g (m : Int) (j : Int) = some (g', ((m' : Nat) : Int)) ∧ g'.length = l.length ∧ m' ≤ l.length ∧ g'.take m' = l.filter (fun x => !b x)
  | d, 0, j, g, m, _, h, _, _, _, _ => absurd h (by omega)
  | 0, n + 1, j, g, m, hj, _, hg, hm, h1, _ => by
    rw [slices_DeleteFunc_int_l0, condN (by omega)]
    exact ⟨g, m, rfl, hg, by omega, by rw [h1, show j = l.length by omega, List.take_length]⟩
  | d + 1, n + 1, j, g, m, hj, hd, hg, hm, h1, h2 => by
    have hgj : aI g (j : Int) = aI l (j : Int) := by
      have a := drop_aI (l := g) (i := j) (by omega)
      have c := drop_aI (l := l) (i := j) (by omega)
      rw [h2, c] at a
      exact (List.cons.inj a).1.symm
    have hd2 : g.drop (j + 1) = l.drop (j + 1) := by
      have a := drop_aI (l := g) (i := j) (by omega)
      have c := drop_aI (l := l) (i := j) (by omega)
      rw [h2, c] at a
      exact (List.cons.inj a).2.symm
    have htk : l.take (j + 1) = l.take j ++ [aI l (j : Int)] := by
      rw [List.take_add_one, List.getElem?_eq_getElem (by omega)]
      congr 1
      unfold aI
      rw [Int.toNat_natCast, List.getD_eq_getElem?_getD, List.getElem?_eq_getElem (by omega)]
      rfl
    rw [slices_DeleteFunc_int_l0, condD (by omega), bindS (idx_aI (by omega) (by omega)), hgj, bindS (hF _ (aI_mem (by omega) (by omega))), wr_succ (i := j) (by omega)]
    cases hb : b (aI l (j : Int))
    · rw [cNF, bindS (idx_aI (by omega) (by omega)), wr_succ (i := m) (by omega), Int.toNat_natCast]
      refine delete_l0 hF hl d n (j + 1) (g.set m (aI l (j : Int))) (m + 1) (by omega) (by omega) (by rw [List.length_set, hg]) (by omega) ?_ ?_
      · rw [htk, List.filter_append, ← h1, List.take_add_one, List.take_set_of_le (Nat.le_refl _), List.getElem?_set_self (by omega)]
        simp [hb]
      · rw [List.drop_set_of_lt (by omega), hd2]
    · rw [cNT]
      refine delete_l0 hF hl d n (j + 1) g m (by omega) (by omega) hg (by omega) ?_ hd2
      rw [htk, List.filter_append, ← h1]
      simp [hb]
theorem deleteFunc_eq {F : Int → Option Bool} {b : Int → Bool} {l : List Int} (hF : ∀ x, x ∈ l → F x = some (b x)) (hk : l.length < k) (hb : k ≤ 4294967290) : slices_DeleteFunc_int k l F = some (l.filter (fun x => !b x)) := by
  unfold slices_DeleteFunc_int slices_IndexFunc_int
  have e := scanF0 (F := fun n i => slices_IndexFunc_int_l0 k l F n (i : Int)) (len := l.length) (k := k) (fun i => b (aI l (i : Int)) = false) (t := ()) (fun i => (i : Int))
    (fun n i hi _ hg => by
      rw [slices_IndexFunc_int_l0, condD (by omega), bindS (idx_aI (by omega) (by omega)), bindS (hF _ (aI_mem (by omega) (by omega))), wr_succ (by omega), hg]
      rfl)
    (fun n i hi _ hg => by
      rw [slices_IndexFunc_int_l0, condD (by omega), bindS (idx_aI (by omega) (by omega)), bindS (hF _ (aI_mem (by omega) (by omega))), eq_true_of_ne_false hg]
      rfl)
    (fun n _ => by
      rw [slices_IndexFunc_int_l0, condN (by omega)]) hk
  have e : slices_IndexFunc_int_l0 k l F k 0 = _ := e
  rw [e]
  rcases Classical.em (∀ j : Nat, j < l.length → b (aI l (j : Int)) = false) with h | h
  · rw [if_pos (fstF_all.2 h), bindS (x := Option.bind _ _) (by rw [bindS rfl, elim_go]), condD rfl]
    congr 1
    refine (List.filter_eq_self.2 fun x hx => ?_).symm
    obtain ⟨i, hi, rfl⟩ := mem_aI hx
    rw [h i hi]
    rfl
  · have hm : ∃ m : Nat, m < l.length ∧ (∀ j : Nat, j < m → b (aI l (j : Int)) = false) ∧ ¬ b (aI l (m : Int)) = false := by
      have key : ∀ n : Nat, n ≤ l.length → (∀ j : Nat, j < n → b (aI l (j : Int)) = false) ∨ ∃ m : Nat, m < n ∧ (∀ j : Nat, j < m → b (aI l (j : Int)) = false) ∧ ¬ b (aI l (m : Int)) = false := by
        intro n
        induction n with
        | zero => intro _; exact .inl fun j hj => absurd hj (by omega)
        | succ n ih =>
          intro hn
          rcases ih (by omega) with a | ⟨m, a1, a2⟩
          · by_cases hb : b (aI l (n : Int)) = false
            · refine .inl fun j hj => ?_
              rcases Nat.lt_or_ge j n with q | q
              · exact a j q
              · rw [show j = n by omega]; exact hb
            · exact .inr ⟨n, by omega, a, hb⟩
          · exact .inr ⟨m, by omega, a2⟩
      rcases key l.length (Nat.le_refl _) with a | a
      · exact absurd a h
      · exact a
    obtain ⟨m, h1, h2, h3⟩ := hm
    have hf : fstF (fun i : Nat => b (aI l (i : Int)) = false) l.length 0 = (m : Int) := fstF_at (by omega) (by omega) (fun i _ hi => h2 i hi) h3
    have htk : (l.take m).filter (fun x => !b x) = l.take m := List.filter_eq_self.2 fun x hx => by
      obtain ⟨i, hi, rfl⟩ := mem_aI hx
      rw [List.length_take] at hi
      have : aI (l.take m) (i : Int) = aI l (i : Int) := by
        unfold aI
        rw [Int.toNat_natCast, List.getD_eq_getElem?_getD, List.getD_eq_getElem?_getD, List.getElem?_take_of_lt (by omega)]
      rw [this, h2 i (by omega)]
      rfl
    have htk1 : (l.take (m + 1)).filter (fun x => !b x) = l.take m := by
      rw [List.take_add_one, List.filter_append, htk, List.getElem?_eq_getElem h1]
      have : b l[m] = true := by
        have hb1 := eq_true_of_ne_false h3
        unfold aI at hb1
        rw [Int.toNat_natCast, List.getD_eq_getElem?_getD, List.getElem?_eq_getElem h1] at hb1
        exact hb1
      simp [this]
    obtain ⟨g', m', e2, hg1, hg2, hg3⟩ := delete_l0 (k := k) hF (by omega) (l.length - (m + 1)) k (m + 1) l m (by omega) (by omega) rfl (by omega) htk1.symm rfl
    rw [hf, if_neg (by omega), bindS (x := Option.bind _ _) (by rw [bindS rfl, elim_rt]), Int.toNat_natCast, condN (by omega), wr_succ (i := m) (by omega), bindS e2]
    simp only
    rw [gdD (by omega), gdD (by omega), Int.toNat_natCast, List.take_take, Nat.min_self, hg3]
theorem filter_one {l : List Int} (hl : l.Pairwise (· < ·)) {p : Int → Bool} {f : Int} (hf : f ∈ l) (hp : ∀ s, p s = true → s = f) : l.filter p = if p f = true then [f] else [] := by
  induction l with
  | nil => cases hf
  | cons x l ih =>
    rw [List.pairwise_cons] at hl
    rw [List.filter_cons]
    rcases List.mem_cons.1 hf with rfl | h
    · have hn : l.filter p = [] := List.filter_eq_nil_iff.2 fun s hs h => by
        have := hl.1 s hs
        have := hp s h
        omega
      rw [hn]
    · have hx : ¬ p x = true := fun h' => by
        have := hl.1 f h
        have := hp x h'
        omega
      rw [if_neg hx]
      exact ih hl.2 h
theorem allV_sorted (p : Party) : (allV v p).Pairwise (· < ·) := by
  unfold allV
  cases mayB v
  · exact List.Pairwise.nil
  · exact allL_sorted _ _ _
theorem bound_open_eq (hv : Small k v) (hk : 1000 < k) (hst : StateP v L P r) (hrk : r.length < k) {i : Int} (hi : 0 ≤ i ∧ i < L.length) : bound_State_open k (BoundState.mk v L P r) (PlanSet.mk (PlaceHall.mk v (usL v)) L (pmN P P.length)) i = some (openL v L P r i) := by
  have hb := hv.b
  have hM := hst.inn.1
  unfold bound_State_open openL
  simp only
  have hpin : mget (pmN P P.length) i = pinAt P i := rfl
  rw [hpin]
  cases hp : pinAt P i with
  | some f =>
    obtain ⟨j, hj, h1, h2⟩ := pinAt_some hp
    have hG := hst.inn.2.1 j hj
    have hpl := hG.pl
    rw [h1, h2] at hpl
    rw [Option.isSome_some, cond_true, Option.getD_some, bindS (bound_may_eq hv hk hst hrk hi hpl), filter_one (allV_sorted _) (f := f) ((allV_mem hv).2 hpl) (fun s hs => (dB_iff.1 hs).2 f rfl)]
    rcases Classical.em (FreeP v L P r i f) with h | h
    · rw [dB_T h, dB_T ⟨h, fun f' e => by cases e; rfl⟩]
      rfl
    · rw [dB_F h, dB_F (fun x => h x.1)]
      rfl
  | none =>
    have hall : place_Hall_All k (PlaceHall.mk v (usL v)) (aI L i) = some (allV v (aI L i)) := by
      rw [place_Hall_All_eq _ hv.hs hb hk]
      unfold allV
      rw [mayB_iff.2 hM]
      rfl
    have hal := allV_len v (aI L i)
    have hN := hv.hs
    rw [Option.isSome_none, cond_false, bindS (idx_aI hi.1 hi.2), bindS hall, bindS (deleteFunc_eq (b := fun s => !dB (FreeP v L P r i s)) (fun s hs => by
      unfold bound_State_open_1
      rw [bindS (bound_may_eq hv hk hst hrk hi ((allV_mem hv).1 hs))]) (by omega) hb)]
    congr 1
    refine List.filter_congr fun s hs => ?_
    rw [Bool.not_not, Bool.eq_iff_iff, dB_iff, dB_iff]
    exact ⟨fun h => ⟨h, fun f e => by cases e⟩, fun h => h.1⟩
theorem ref6_free_eq (hv : Small k v) (hk : 1000 < k) (hst : StateP v L P r) (hrk : r.length < k) (hPk : P.length < k) {i : Int} (hi : 0 ≤ i ∧ i < L.length) (s : Int) : ref6_Hall_free k (Ref6Hall.mk v (usL v)) L r P i s = some (dB (FreeP v L P r i s)) := by
  have hb := hv.b
  have hM := hst.inn.1
  have hrl := hst.len
  unfold ref6_Hall_free
  have e := scanB (F := fun n j => ref6_Hall_free_l0 k (Ref6Hall.mk v (usL v)) L r i s n (j : Int)) (len := r.length) (k := k) (fun j => ¬ aI r (j : Int) = -1 → aptB v (aI L i) s (aI L (j : Int)) (aI r (j : Int)) = true) (t := ()) (r := false)
    (fun n j hj _ hg => by
      rw [ref6_Hall_free_l0, condD (by omega), bindS (idx_aI (by omega) (by omega)), wr_succ (by omega)]
      by_cases h1 : aI r (j : Int) = -1
      · rw [condNT h1]
      · rw [condNF h1, bindS (idx_aI hi.1 hi.2), bindS (idx_aI (l := L) (by omega) (by omega)), bindS (idx_aI (by omega) (by omega)), bindS (rhall_Apart hv hM hk _ _ _ _), hg h1, cNT])
    (fun n j hj _ hg => by
      obtain ⟨h1, h2⟩ := Classical.not_imp.1 hg
      rw [ref6_Hall_free_l0, condD (by omega), bindS (idx_aI (by omega) (by omega)), condNF h1, bindS (idx_aI hi.1 hi.2), bindS (idx_aI (l := L) (by omega) (by omega)), bindS (idx_aI (by omega) (by omega)), bindS (rhall_Apart hv hM hk _ _ _ _), Bool.eq_false_iff.2 h2, cNF])
    (fun n _ => by
      rw [ref6_Hall_free_l0, condN (by omega)]) hrk
  have e : ref6_Hall_free_l0 k (Ref6Hall.mk v (usL v)) L r i s k 0 = _ := e
  have e1 := scanB (F := fun n j => ref6_Hall_free_l1 k (Ref6Hall.mk v (usL v)) L P i s n (j : Int)) (len := P.length) (k := k) (fun j => ¬ (aI P (j : Int)).Party = i → aptB v (aI L i) s (aI L (aI P (j : Int)).Party) (aI P (j : Int)).First = true) (t := ()) (r := false)
    (fun n j hj _ hg => by
      have hG := hst.inn.2.1 j hj
      rw [ref6_Hall_free_l1, condD (by omega), bindS (idx_aI (by omega) (by omega)), wr_succ (by omega)]
      by_cases h1 : (aI P (j : Int)).Party = i
      · rw [condNT h1]
      · rw [condNF h1, bindS (idx_aI hi.1 hi.2), bindS (idx_aI hG.lo hG.hi), bindS (idx_aI (by omega) (by omega)), bindS (rhall_Apart hv hM hk _ _ _ _), hg h1, cNT])
    (fun n j hj _ hg => by
      have hG := hst.inn.2.1 j hj
      obtain ⟨h1, h2⟩ := Classical.not_imp.1 hg
      rw [ref6_Hall_free_l1, condD (by omega), bindS (idx_aI (by omega) (by omega)), condNF h1, bindS (idx_aI hi.1 hi.2), bindS (idx_aI hG.lo hG.hi), bindS (idx_aI (by omega) (by omega)), bindS (rhall_Apart hv hM hk _ _ _ _), Bool.eq_false_iff.2 h2, cNF])
    (fun n _ => by
      rw [ref6_Hall_free_l1, condN (by omega)]) hPk
  have e1 : ref6_Hall_free_l1 k (Ref6Hall.mk v (usL v)) L P i s k 0 = _ := e1
  rw [bindS e]
  rcases Classical.em (∀ j : Nat, j < r.length → ¬ aI r (j : Int) = -1 → aptB v (aI L i) s (aI L (j : Int)) (aI r (j : Int)) = true) with h | h
  · rw [dB_T h, if_pos rfl, elim_go, bindS e1]
    rcases Classical.em (∀ j : Nat, j < P.length → ¬ (aI P (j : Int)).Party = i → aptB v (aI L i) s (aI L (aI P (j : Int)).Party) (aI P (j : Int)).First = true) with h' | h'
    · rw [dB_T h', if_pos rfl, elim_go, dB_T ⟨h, h'⟩]
    · rw [dB_F h', if_neg (by simp), elim_rt, dB_F (fun x => h' x.pins)]
  · rw [dB_F h, if_neg (by simp), elim_rt, dB_F (fun x => h x.plan)]
theorem ref6_Open_eq (hv : Small k v) (hk : 1000 < k) (hst : StateP v L P r) (hrk : r.length < k) (hPk : P.length < k) {i : Int} (hi : 0 ≤ i ∧ i < L.length) : ref6_Hall_Open k (Ref6Hall.mk v (usL v)) L r P i = some (openL v L P r i) := by
  have hb := hv.b
  have hM := hst.inn.1
  have hall : ref6_Hall_All k (Ref6Hall.mk v (usL v)) (aI L i) = some (allV v (aI L i)) := by
    rw [ref6_Hall_All_eq _ hv.hs hb hk]
    unfold allV
    rw [mayB_iff.2 hM]
    rfl
  have hal := allV_len v (aI L i)
  have hN := hv.hs
  unfold ref6_Hall_Open openL
  rw [bindS (idx_aI hi.1 hi.2), bindS hall, bindS (ref6_pinned_eq hst.inn.2.1.rise hPk hb i)]
  generalize allV v (aI L i) = A at hal
  have e2 := gather0 (f := fun n a j => ref6_Hall_Open_l0 k (Ref6Hall.mk v (usL v)) L r P i A ((pinAt P i).getD (-1), (pinAt P i).isSome) n a j) (len := A.length) (c := 0) (fun j : Nat => dB (FreeP v L P r i (aI A (j : Int)) ∧ ∀ f, pinAt P i = some f → aI A (j : Int) = f)) (fun j : Nat => aI A (j : Int))
      (fun n j w hj hw => by
        show ref6_Hall_Open_l0 k (Ref6Hall.mk v (usL v)) L r P i A ((pinAt P i).getD (-1), (pinAt P i).isSome) (n + 1) w (j : Int) = ref6_Hall_Open_l0 k (Ref6Hall.mk v (usL v)) L r P i A ((pinAt P i).getD (-1), (pinAt P i).isSome) n _ _
        have hc : (Option.bind (idx A (j : Int)) fun y74 => Option.bind (ref6_Hall_free k (Ref6Hall.mk v (usL v)) L r P i y74) fun r76 => cond r76 (cond (!(pinAt P i).isSome) (some true) (Option.bind (idx A (j : Int)) fun y80 => some (decide (y80 = (pinAt P i).getD (-1))))) (some false)) = some (dB (FreeP v L P r i (aI A (j : Int)) ∧ ∀ f, pinAt P i = some f → aI A (j : Int) = f)) := by
          rw [bindS (idx_aI (by omega) (by omega)), bindS (ref6_free_eq hv hk hst hrk hPk hi _), bindS (idx_aI (by omega) (by omega))]
          rcases Classical.em (FreeP v L P r i (aI A (j : Int))) with h | h
          · rw [dB_T h, cond_true]
            cases pinAt P i with
            | none => rw [Option.isSome_none, cNF, dB_T ⟨h, fun f e => by cases e⟩]
            | some f =>
              rw [Option.isSome_some, cNT, Option.getD_some]
              by_cases h2 : aI A (j : Int) = f
              · rw [decide_eq_true h2, dB_T ⟨h, fun f' e => by cases e; exact h2⟩]
              · rw [decide_eq_false h2, dB_F (fun x => h2 (x.2 f rfl))]
          · rw [dB_F h, cond_false, dB_F (fun x => h x.1)]
        rw [ref6_Hall_Open_l0, condD (by omega), wr_succ (by omega)]
        simp only
        rw [bindS hc]
        cases dB (FreeP v L P r i (aI A (j : Int)) ∧ ∀ f, pinAt P i = some f → aI A (j : Int) = f)
        · rw [cond_false, if_neg (by simp)]
        · rw [cond_true, bindS (idx_aI (by omega) (by omega)), gdD (by simp only [List.length_singleton]; omega), if_pos rfl])
      (fun n w => by show ref6_Hall_Open_l0 k (Ref6Hall.mk v (usL v)) L r P i A ((pinAt P i).getD (-1), (pinAt P i).isSome) (n + 1) w _ = _; rw [ref6_Hall_Open_l0, condN (by omega)])
      (k := k) (by omega) [] (by simp)
  have e2 : ref6_Hall_Open_l0 k (Ref6Hall.mk v (usL v)) L r P i A ((pinAt P i).getD (-1), (pinAt P i).isSome) k [] 0 = _ := e2
  rw [bindS e2, List.nil_append]
  congr 1
  have h := range_map_aI (l := A) (f := fun s => s)
  have h2 : ((List.range A.length).map (fun j : Nat => aI A (j : Int))) = A := by rw [h, List.map_id']
  have h3 : ∀ (p : Int → Bool) (R : List Nat), (R.filter (fun j : Nat => p (aI A (j : Int)))).map (fun j : Nat => aI A (j : Int)) = (R.map (fun j : Nat => aI A (j : Int))).filter p := fun p R => by
    rw [List.filter_map]
    rfl
  rw [h3 (fun s => dB (FreeP v L P r i s ∧ ∀ f, pinAt P i = some f → s = f)), h2]
end
end Go.Px

set_option linter.unusedVariables false
set_option linter.unusedSimpArgs false
namespace Go.Px
open Go Go.Sh
theorem aI_take {α : Type} [Inhabited α] {l : List α} {n : Nat} {x : Int} (h0 : 0 ≤ x) (h : x < (n : Int)) : aI (l.take n) x = aI l x := by
  unfold aI
  rw [List.getD_eq_getElem?_getD, List.getD_eq_getElem?_getD, List.getElem?_take_of_lt (by omega)]
theorem among_take {P : List Pin} (hP : RiseP P) (n : Int) : ∀ t : Nat, t ≤ P.length → ∃ m, m ≤ t ∧ (P.take t).filter (fun p => decide (p.Party < n)) = P.take m ∧ (∀ i : Nat, i < m → (aI P (i : Int)).Party < n) ∧ ∀ i : Nat, m ≤ i → i < t → n ≤ (aI P (i : Int)).Party
  | 0, _ => ⟨0, Nat.le_refl _, by simp, fun i h => absurd h (by omega), fun i _ h => absurd h (by omega)⟩
  | t + 1, ht => by
    obtain ⟨m, h1, h2, h3, h4⟩ := among_take hP n t (by omega)
    have e : P.take (t + 1) = P.take t ++ [aI P (t : Int)] := by
      rw [List.take_add_one, List.getElem?_eq_getElem (by omega)]
      congr 1
      unfold aI
      rw [Int.toNat_natCast, List.getD_eq_getElem?_getD, List.getElem?_eq_getElem (by omega)]
      rfl
    by_cases h : (aI P (t : Int)).Party < n
    · have hm : m = t := by
        rcases Nat.lt_or_ge m t with q | q
        · have a := h4 m (Nat.le_refl _) q
          have b := hP m t q (by omega)
          omega
        · omega
      subst hm
      refine ⟨m + 1, Nat.le_refl _, ?_, fun i hi => ?_, fun i a b => absurd b (by omega)⟩
      · rw [e, List.filter_append, h2]
        simp [h]
      · rcases Nat.lt_or_ge i m with q | q
        · exact h3 i q
        · rw [show i = m by omega]; exact h
    · refine ⟨m, by omega, ?_, h3, fun i a b => ?_⟩
      · rw [e, List.filter_append, h2]
        simp [h]
      · rcases Nat.lt_or_ge i t with q | q
        · exact h4 i a q
        · rw [show i = t by omega]; omega
section
variable {k : Nat} {v : Venue} {L : List Party} {P : List Pin} {r : List Int}
theorem ref6_among_eq (hP : P.length < k) (hb : k ≤ 4294967290) (n : Int) : ref6_among k P n = some (P.filter (fun p => decide (p.Party < n))) := by
  unfold ref6_among
  have e2 := gather0 (f := fun m a i => ref6_among_l0 k P n m a i) (len := P.length) (c := 0) (fun j : Nat => decide ((aI P (j : Int)).Party < n)) (fun j : Nat => aI P (j : Int))
    (fun m i w hi hw => by
      show ref6_among_l0 k P n (m + 1) w (i : Int) = ref6_among_l0 k P n m _ _
      rw [ref6_among_l0, condD (by omega), bindS (idx_aI (by omega) (by omega)), wr_succ (by omega)]
      by_cases h : (aI P (i : Int)).Party < n
      · rw [condD h, decide_eq_true h, bindS (idx_aI (by omega) (by omega)), gdD (by simp only [List.length_singleton]; omega), if_pos rfl]
      · rw [condN h, decide_eq_false h, if_neg (by simp)])
    (fun m w => by show ref6_among_l0 k P n (m + 1) w _ = _; rw [ref6_among_l0, condN (by omega)])
    (k := k) hP [] (by simp)
  have e2 : ref6_among_l0 k P n k [] 0 = _ := e2
  have h := range_map_aI (l := P) (f := fun s => s)
  have h2 : ((List.range P.length).map (fun j : Nat => aI P (j : Int))) = P := by rw [h, List.map_id']
  have h3 : ∀ (p : Pin → Bool) (R : List Nat), (R.filter (fun j : Nat => p (aI P (j : Int)))).map (fun j : Nat => aI P (j : Int)) = (R.map (fun j : Nat => aI P (j : Int))).filter p := fun p R => by
    rw [List.filter_map]
    rfl
  rw [bindS e2, List.nil_append, h3 (fun p => decide (p.Party < n)), h2]
theorem pinAt_take (hP : RiseP P) {m : Nat} (hm : m ≤ P.length) {i : Int} (h4 : ∀ j : Nat, m ≤ j → j < P.length → ¬ (aI P (j : Int)).Party = i) {f : Int} : pinAt (P.take m) i = some f ↔ pinAt P i = some f := by
  have hl : (P.take m).length = m := by rw [List.length_take]; omega
  have hR : RiseP (P.take m) := fun a b hab hb => by
    rw [hl] at hb
    rw [aI_take (by omega) (by omega), aI_take (by omega) (by omega)]
    exact hP a b hab (by omega)
  constructor
  · intro h
    obtain ⟨j, h1, h2, h3⟩ := pinAt_some h
    rw [hl] at h1
    rw [aI_take (by omega) (by omega)] at h2 h3
    rw [← h2, ← h3]
    exact pinAt_get hP (by omega)
  · intro h
    obtain ⟨j, h1, h2, h3⟩ := pinAt_some h
    have hj : j < m := by
      rcases Nat.lt_or_ge j m with q | q
      · exact q
      · exact absurd h2 (h4 j q h1)
    have := pinAt_get hR (i := j) (by omega)
    rw [aI_take (by omega) (by omega), h2, h3] at this
    exact this
theorem StateP_iff (hI : InOK v L P) (hl : r.length ≤ L.length) : PlanP v (L.take r.length) (P.filter (fun p => decide (p.Party < (r.length : Int)))) r ↔ StateP v L P r := by
  obtain ⟨m, h1, h2, h3, h4⟩ := among_take hI.2.1.rise (r.length : Int) P.length (Nat.le_refl _)
  rw [List.take_length] at h2
  rw [h2]
  have hLl : (L.take r.length).length = r.length := by rw [List.length_take]; omega
  have hpin : ∀ (i : Nat) (f : Int), i < r.length → (pinAt (P.take m) (i : Int) = some f ↔ pinAt P (i : Int) = some f) := fun i f hi => pinAt_take hI.2.1.rise h1 (fun j a b e => by have := h4 j a b; omega)
  have hat : ∀ i : Nat, i < r.length → (OkAt v (L.take r.length) (P.take m) r i ↔ OkAt v L P r i) := fun i hi => by
    constructor
    · intro h
      refine ⟨fun f hf => h.pin f ((hpin i f hi).2 hf), fun hn => ?_, fun hn j hj hnj => ?_⟩
      · have := h.pl hn
        rw [aI_take (by omega) (by omega)] at this
        exact this
      · have := h.ap hn j hj hnj
        rw [aI_take (by omega) (by omega), aI_take (by omega) (by omega)] at this
        exact this
    · intro h
      refine ⟨fun f hf => h.pin f ((hpin i f hi).1 hf), fun hn => ?_, fun hn j hj hnj => ?_⟩
      · rw [aI_take (by omega) (by omega)]
        exact h.pl hn
      · rw [aI_take (by omega) (by omega), aI_take (by omega) (by omega)]
        exact h.ap hn j hj hnj
  constructor
  · intro h
    exact ⟨hI, hl, fun i hi => (hat i hi).1 (h.at_ i hi)⟩
  · intro h
    refine ⟨⟨hI.1, fun i hi => ?_, by have := hI.2.2.1; omega, fun i hi => ?_⟩, hLl.symm, fun i hi => (hat i hi).2 (h.at_ i hi)⟩
    · have hm : (P.take m).length = m := by rw [List.length_take]; omega
      rw [hm] at hi
      have hG := hI.2.1 i (by omega)
      have ht := h3 i hi
      refine ⟨by rw [aI_take (by omega) (by omega)]; exact hG.lo, by rw [aI_take (by omega) (by omega), hLl]; exact ht, fun h0 => ?_, ?_, fun j hj => ?_⟩
      · rw [aI_take (by omega) (by omega), aI_take (by omega) (by omega)]
        exact hG.rise h0
      · rw [aI_take (l := P) (by omega) (by omega), aI_take (l := L) hG.lo ht]
        exact hG.pl
      · have := h3 j (by omega)
        rw [aI_take (l := P) (by omega) (by omega), aI_take (l := P) (by omega) (by omega), aI_take (l := L) hG.lo ht, aI_take (l := L) (hI.2.1 j (by omega)).lo this]
        exact hG.ap j hj
    · rw [hLl] at hi
      rw [aI_take (by omega) (by omega)]
      exact hI.2.2.2 i (by omega)
theorem ref6_MayState_eq (hv : Small k v) (hk : 1000 < k) (hL : L.length < k) (hP : P.length < k) (hrk : r.length < k) : ref6_MayState k v L P r = some (dB (StateP v L P r)) := by
  have hb := hv.b
  unfold ref6_MayState
  rw [bindS (ref6_MayPins_eq hv hk hL hP)]
  rcases Classical.em (InOK v L P) with h | h
  · rw [dB_T h, cond_true]
    by_cases hl : (r.length : Int) ≤ (L.length : Int)
    · have hs : slc L 0 (r.length : Int) = some (L.take r.length) := by
        rw [slc_eq ⟨by omega, by omega, by omega⟩, show (r.length : Int).toNat - (0 : Int).toNat = r.length by omega]
        rfl
      have hf : (P.filter (fun p => decide (p.Party < (r.length : Int)))).length ≤ P.length := List.length_filter_le _ _
      rw [condD hl, if_neg (by omega), bindS hs, bindS (ref6_among_eq hP hb _), bindS (ref6_MayPlan_eq hv hk (by rw [List.length_take]; omega) (by omega))]
      congr 1
      rw [Bool.eq_iff_iff, dB_iff, dB_iff]
      exact StateP_iff h (by omega)
    · rw [condN hl, dB_F (fun x => by have := x.len; omega)]
  · rw [dB_F h, cond_false, dB_F (fun x => h x.inn)]
/-- A party's place may be planned next. -/
def NextP (v : Venue) (L : List Party) (P : List Pin) (r : List Int) (x : Int) : Prop := StateP v L P r ∧ r.length < L.length ∧ ((x = -1 ∧ pinAt P (r.length : Int) = none) ∨ x ∈ openL v L P r (r.length : Int))
theorem openL_mem (hv : Small k v) {i s : Int} : s ∈ openL v L P r i ↔ plB v (aI L i) s = true ∧ FreeP v L P r i s ∧ ∀ f, pinAt P i = some f → s = f := by
  unfold openL
  rw [List.mem_filter, allV_mem hv, dB_iff]
theorem openL_ge (hv : Small k v) {i s : Int} (h : s ∈ openL v L P r i) : 0 ≤ s := (plB_in hv ((openL_mem hv).1 h).1).2.2.1
theorem openL_len {i : Int} : (openL v L P r i).length ≤ v.Seats.length := by
  unfold openL
  have := List.length_filter_le (fun s => dB (FreeP v L P r i s ∧ ∀ f, pinAt P i = some f → s = f)) (allV v (aI L i))
  have := allV_len v (aI L i)
  omega
theorem bound_Next_eq (hv : Small k v) (hk : 1000 < k) (hL : L.length < k) (hP : P.length < k) (ho : ∀ i : Nat, i < P.length → okI (aI P (i : Int)).First) (hrk : r.length < k) (hr : ∀ i : Nat, i < r.length → okI (aI r (i : Int))) (x : Int) :
    bound_Next k (BoundState.mk v L P r) x = some (if dB (NextP v L P r x) = true then (BoundState.mk v L P (r ++ [x]), true) else (BoundState.mk (Venue.mk [] 0 0 [] []) [] [] [], false)) := by
  have hb := hv.b
  obtain ⟨S, e, hS⟩ := bound_in_eq hv hk hL hP ho hrk hr
  have hcl : (Option.bind (slices_Clone_Plan_int k r) fun r17 => gd (decide (r17.length + ([x]).length ≤ 4294967296)) (some (BoundState.mk v L P (r17 ++ [x]), true))) = some (BoundState.mk v L P (r ++ [x]), true) := by
    unfold slices_Clone_Plan_int
    rw [gdD (by simp only [List.length_nil]; omega), List.nil_append]
    rw [bindS rfl, gdD (by simp only [List.length_singleton]; omega)]
  unfold bound_Next
  rw [bindS e]
  simp only
  rcases Classical.em (StateP v L P r) with h | h
  · rw [dB_T h, cNT, bindS rfl]
    by_cases hl : (L.length : Int) ≤ (r.length : Int)
    · rw [condD hl, dB_F (fun y => by have := y.2.1; omega)]
      rfl
    · rw [condN hl, hS h]
      simp only
      have hmg : mget (pmN P P.length) (r.length : Int) = pinAt P (r.length : Int) := rfl
      rw [hmg]
      by_cases h1 : x = -1
      · rw [condD h1, condNT h1]
        cases hp : pinAt P (r.length : Int) with
        | none =>
          rw [Option.isSome_none, cond_false, hcl, dB_T ⟨h, by omega, .inl ⟨h1, hp⟩⟩, if_pos rfl]
        | some f =>
          rw [Option.isSome_some, cond_true, dB_F (fun y => by
            rcases y.2.2 with ⟨_, q⟩ | q
            · rw [hp] at q; cases q
            · have := openL_ge hv q; omega), if_neg (by simp)]
      · have hol := openL_len (v := v) (L := L) (P := P) (r := r) (i := (r.length : Int))
        have hN := hv.hs
        rw [condN h1, condNF h1, bindS (bound_open_eq hv hk h hrk ⟨by omega, by omega⟩), bindS (slices_Contains_int_eq k _ x (by omega) (by omega)), hcl]
        by_cases h2 : x ∈ openL v L P r (r.length : Int)
        · rw [condNT h2, dB_T ⟨h, by omega, .inr h2⟩, if_pos rfl]
        · rw [condNF h2, dB_F (fun y => by
            rcases y.2.2 with q | q
            · exact h1 q.1
            · exact h2 q), if_neg (by simp)]
  · rw [dB_F h, cNF, bindS rfl, cond_true, dB_F (fun y => h y.1), if_neg (by simp)]
theorem ref6_NextOf_eq (hv : Small k v) (hk : 1000 < k) (hL : L.length < k) (hP : P.length < k) (hrk : r.length < k) (x : Int) : ref6_NextOf k v L P r x = some (if dB (NextP v L P r x) = true then (r ++ [x], true) else ([], false)) := by
  have hb := hv.b
  unfold ref6_NextOf
  rw [bindS (ref6_MayState_eq hv hk hL hP hrk)]
  rcases Classical.em (StateP v L P r) with h | h
  · rw [dB_T h, cNT, bindS rfl]
    by_cases hl : (L.length : Int) ≤ (r.length : Int)
    · rw [condD hl, dB_F (fun y => by have := y.2.1; omega), if_neg (by simp)]
    · rw [condN hl, bindS (ref6_pinned_eq h.inn.2.1.rise hP hb _)]
      simp only
      by_cases h0 : x = -1 ∧ pinAt P (r.length : Int) = none
      · rw [condD h0.1, h0.2, Option.isSome_none, bindS rfl, dB_T ⟨h, by omega, .inl h0⟩]
        rw [Bool.not_false, cond_true, gdD (by simp only [List.length_nil]; omega), gdD (by simp only [List.nil_append, List.length_singleton]; omega), if_pos rfl, List.nil_append, h0.1]
      · have hc : (cond (decide (x = -1)) (some (!(pinAt P (r.length : Int)).isSome)) (some false)) = some false := by
          by_cases h1 : x = -1
          · rw [condD h1]
            cases hp : pinAt P (r.length : Int) with
            | none => exact absurd ⟨h1, hp⟩ h0
            | some f => rfl
          · rw [condN h1]
        have hol := openL_len (v := v) (L := L) (P := P) (r := r) (i := (r.length : Int))
        have hN := hv.hs
        rw [bindS hc, cond_false, bindS (ref6_NewHall_eq hv), mayB_iff.2 h.inn.1, cond_true, optc_some, bindS (ref6_Open_eq hv hk h hrk hP ⟨by omega, by omega⟩)]
        have hiff : dB (NextP v L P r x) = dB (x ∈ openL v L P r (r.length : Int)) := by
          rw [Bool.eq_iff_iff, dB_iff, dB_iff]
          exact ⟨fun y => by rcases y.2.2 with q | q; exact absurd q h0; exact q, fun y => ⟨h, by omega, .inr y⟩⟩
        rw [hiff]
        generalize openL v L P r (r.length : Int) = O at hol
        have e := scanB (F := fun n j => ref6_NextOf_l0 k r x O n (j : Int)) (len := O.length) (k := k) (fun j => ¬ aI O (j : Int) = x) (t := ()) (r := (r ++ [x], true))
          (fun n j hj _ hg => by
            rw [ref6_NextOf_l0, condD (by omega), bindS (idx_aI (by omega) (by omega)), condN hg, wr_succ (by omega)])
          (fun n j hj _ hg => by
            rw [ref6_NextOf_l0, condD (by omega), bindS (idx_aI (by omega) (by omega)), condD (Classical.not_not.1 hg), gdD (by simp only [List.length_nil]; omega), gdD (by simp only [List.nil_append, List.length_singleton]; omega), List.nil_append])
          (fun n _ => by
            rw [ref6_NextOf_l0, condN (by omega)]) (by omega)
        have e : ref6_NextOf_l0 k r x O k 0 = _ := e
        rw [bindS e]
        by_cases h2 : x ∈ O
        · obtain ⟨j, hj, ej⟩ := mem_aI h2
          rw [dB_F (fun y => y j hj ej), if_neg (by simp), elim_rt, dB_T h2, if_pos rfl]
        · rw [dB_T (fun j hj ej => h2 (by rw [← ej]; exact aI_mem (by omega) (by omega))), if_pos rfl, elim_go, dB_F h2, if_neg (by simp)]
  · rw [dB_F h, cNF, bindS rfl, cond_true, dB_F (fun y => h y.1), if_neg (by simp)]
open Classical in
/-- How many persons at most. -/
noncomputable def mostN (v : Venue) (L : List Party) (P : List Pin) (r : List Int) : Nat → Int
  | 0 => 0
  | n + 1 => mostN v L P r n + if (n < r.length ∧ 0 ≤ aI r (n : Int)) ∨ (r.length ≤ n ∧ 0 < (openL v L P r (n : Int)).length) then (aI L (n : Int)).Size else 0
theorem mostN_bd (hA : AllMay L) : ∀ {n : Nat}, n ≤ L.length → 0 ≤ mostN v L P r n ∧ mostN v L P r n ≤ 8 * n
  | 0, _ => by rw [mostN]; omega
  | n + 1, h => by
    have := mostN_bd hA (n := n) (by omega)
    have := hA.2 n (by omega)
    rw [mostN]
    split <;> omega
/-- Both loops that count, once for all. -/
theorem most_gen (hst : StateP v L P r) {f : Nat → Int → Int → Option Int} {op : Int → Option (List Int)} (hop : ∀ i : Int, 0 ≤ i ∧ i < L.length → op i = some (openL v L P r i))
    (hs : ∀ (n i : Nat) (c : Int), i < L.length → f (n + 1) c (i : Int) = Option.bind (cond (decide ((i : Int) < (r.length : Int))) (Option.bind (idx r (i : Int)) fun y => cond (decide (0 ≤ y)) (some true) (cond (decide ((r.length : Int) ≤ (i : Int))) (Option.bind (op (i : Int)) fun q => some (decide (0 < (q.length : Int)))) (some false))) (cond (decide ((r.length : Int) ≤ (i : Int))) (Option.bind (op (i : Int)) fun q => some (decide (0 < (q.length : Int)))) (some false))) fun o => cond o (f n (wr (c + (aI L (i : Int)).Size)) ((i + 1 : Nat) : Int)) (f n c ((i + 1 : Nat) : Int)))
    (he : ∀ n c, f (n + 1) c (L.length : Int) = some c) : ∀ d n i : Nat, i + d = L.length → d < n → f n (mostN v L P r i) (i : Int) = some (mostN v L P r L.length)
  | d, 0, i, _, h => absurd h (by omega)
  | 0, n + 1, i, hi, _ => by rw [show i = L.length by omega, he]
  | d + 1, n + 1, i, hi, hd => by
    have hA := hst.inn.2.2
    have h1 := hA.1
    have h2 := hA.2 i (by omega)
    have h3 := mostN_bd (v := v) (P := P) (r := r) hA (n := i) (by omega)
    have ih := most_gen hst hop hs he d n (i + 1) (by omega) (by omega)
    rw [mostN] at ih
    rw [hs n i _ (by omega)]
    by_cases hr : (i : Int) < (r.length : Int)
    · rw [condD hr, bindS (idx_aI (by omega) hr)]
      by_cases h : 0 ≤ aI r (i : Int)
      · rw [if_pos (.inl ⟨by omega, h⟩)] at ih
        rw [condD h, bindS rfl, cond_true, wr_id (by omega) (by omega), ih]
      · rw [if_neg (fun x => by rcases x with x | x; exact h x.2; have := x.1; omega), Int.add_zero] at ih
        rw [condN h, condN (by omega), bindS rfl, cond_false, ih]
    · rw [condN hr, condD (by omega), bindS (hop _ ⟨by omega, by omega⟩), bindS rfl]
      by_cases h : 0 < (openL v L P r (i : Int)).length
      · rw [if_pos (.inr ⟨by omega, h⟩)] at ih
        rw [condD (by omega), wr_id (by omega) (by omega), ih]
      · rw [if_neg (fun x => by rcases x with x | x; have := x.1; omega; exact h x.2), Int.add_zero] at ih
        rw [condN (by omega), ih]
theorem bound_Most_eq (hv : Small k v) (hk : 1000 < k) (hL : L.length < k) (hP : P.length < k) (ho : ∀ i : Nat, i < P.length → okI (aI P (i : Int)).First) (hrk : r.length < k) (hr : ∀ i : Nat, i < r.length → okI (aI r (i : Int))) :
    bound_Most k (BoundState.mk v L P r) = some (if dB (StateP v L P r) = true then mostN v L P r L.length else 0) := by
  have hb := hv.b
  obtain ⟨S, e, hS⟩ := bound_in_eq hv hk hL hP ho hrk hr
  unfold bound_Most
  rw [bindS e]
  simp only
  rcases Classical.em (StateP v L P r) with h | h
  · have e2 := most_gen h (f := fun n c i => bound_Most_l0 k (BoundState.mk v L P r) (S, dB (StateP v L P r)) n c i) (op := fun i => bound_State_open k (BoundState.mk v L P r) S i) (fun i hi => by rw [hS h]; exact bound_open_eq hv hk h hrk hi)
      (fun n i c hi => by
        show bound_Most_l0 k (BoundState.mk v L P r) (S, dB (StateP v L P r)) (n + 1) c (i : Int) = _
        rw [bound_Most_l0]
        simp only
        rw [condD (by omega), bindS (idx_aI (by omega) (by omega)), wr_succ (by omega)])
      (fun n c => by
        show bound_Most_l0 k (BoundState.mk v L P r) (S, dB (StateP v L P r)) (n + 1) c (L.length : Int) = _
        rw [bound_Most_l0]
        simp only
        rw [condN (by omega)]) L.length k 0 (by omega) (by omega)
    have e2 : bound_Most_l0 k (BoundState.mk v L P r) (S, dB (StateP v L P r)) k 0 0 = _ := e2
    rw [bindS e2, dB_T h, cNT, if_pos rfl]
  · rw [dB_F h, cNF, if_neg (by simp)]
theorem ref6_MostOf_eq (hv : Small k v) (hk : 1000 < k) (hL : L.length < k) (hP : P.length < k) (hrk : r.length < k) : ref6_MostOf k v L P r = some (if dB (StateP v L P r) = true then mostN v L P r L.length else 0) := by
  have hb := hv.b
  unfold ref6_MostOf
  rw [bindS (ref6_MayState_eq hv hk hL hP hrk)]
  rcases Classical.em (StateP v L P r) with h | h
  · have e2 := most_gen h (f := fun n c i => ref6_Hall_Most_l0 k (Ref6Hall.mk v (usL v)) L r P n c i) (op := fun i => ref6_Hall_Open k (Ref6Hall.mk v (usL v)) L r P i) (fun i hi => ref6_Open_eq hv hk h hrk hP hi)
      (fun n i c hi => by
        show ref6_Hall_Most_l0 k (Ref6Hall.mk v (usL v)) L r P (n + 1) c (i : Int) = _
        rw [ref6_Hall_Most_l0, condD (by omega), bindS (idx_aI (l := L) (by omega) (by omega)), wr_succ (by omega)])
      (fun n c => by
        show ref6_Hall_Most_l0 k (Ref6Hall.mk v (usL v)) L r P (n + 1) c (L.length : Int) = _
        rw [ref6_Hall_Most_l0, condN (by omega)]) L.length k 0 (by omega) (by omega)
    have e2 : ref6_Hall_Most_l0 k (Ref6Hall.mk v (usL v)) L r P k 0 0 = _ := e2
    rw [dB_T h, cNT, bindS (ref6_NewHall_eq hv), mayB_iff.2 h.inn.1, cond_true, optc_some]
    unfold ref6_Hall_Most
    rw [bindS (x := Option.bind _ _) (by rw [bindS e2]), if_pos rfl]
  · rw [dB_F h, cNF, if_neg (by simp)]
theorem bound_Open_eq (hv : Small k v) (hk : 1000 < k) (hL : L.length < k) (hP : P.length < k) (ho : ∀ i : Nat, i < P.length → okI (aI P (i : Int)).First) (hrk : r.length < k) (hr : ∀ i : Nat, i < r.length → okI (aI r (i : Int))) (i : Int) :
    bound_Open k (BoundState.mk v L P r) i = some (if dB (StateP v L P r ∧ (r.length : Int) ≤ i ∧ i < L.length) = true then openL v L P r i else []) := by
  obtain ⟨S, e, hS⟩ := bound_in_eq hv hk hL hP ho hrk hr
  unfold bound_Open
  rw [bindS e]
  simp only
  rcases Classical.em (StateP v L P r) with h | h
  · rw [dB_T h, cNT]
    by_cases h1 : i < (r.length : Int)
    · rw [condD h1, bindS rfl, elim_rt, dB_F (fun x => by omega), if_neg (by simp)]
    rw [condN h1]
    by_cases h2 : (L.length : Int) ≤ i
    · rw [condD h2, bindS rfl, elim_rt, dB_F (fun x => by omega), if_neg (by simp)]
    · rw [condN h2, bindS rfl, elim_go, hS h, bindS (bound_open_eq hv hk h hrk ⟨by omega, by omega⟩), dB_T ⟨h, by omega, by omega⟩, if_pos rfl]
  · rw [dB_F h, cNF, bindS rfl, elim_rt, dB_F (fun x => h x.1), if_neg (by simp)]
theorem ref6_OpenOf_eq (hv : Small k v) (hk : 1000 < k) (hL : L.length < k) (hP : P.length < k) (hrk : r.length < k) (i : Int) : ref6_OpenOf k v L P r i = some (if dB (StateP v L P r ∧ (r.length : Int) ≤ i ∧ i < L.length) = true then openL v L P r i else []) := by
  unfold ref6_OpenOf
  rw [bindS (ref6_MayState_eq hv hk hL hP hrk)]
  rcases Classical.em (StateP v L P r) with h | h
  · rw [dB_T h, cNT]
    by_cases h1 : i < (r.length : Int)
    · rw [condD h1, dB_F (fun x => by omega), if_neg (by simp)]
    rw [condN h1]
    by_cases h2 : (L.length : Int) ≤ i
    · rw [condD h2, dB_F (fun x => by omega), if_neg (by simp)]
    · rw [condN h2, bindS (ref6_NewHall_eq hv), mayB_iff.2 h.inn.1, cond_true, optc_some, bindS (ref6_Open_eq hv hk h hrk hP ⟨by omega, by omega⟩), dB_T ⟨h, by omega, by omega⟩, if_pos rfl]
  · rw [dB_F h, cNF, dB_F (fun x => h x.1), if_neg (by simp)]
theorem law13_told_eq : law13_told 20000 = some true := by decide +kernel
end
end Go.Px

set_option linter.unusedVariables false
set_option linter.unusedSimpArgs false
namespace Go.Px
open Go Go.Sh
theorem law12_Few_eq (k : Nat) (v : Venue) (L : List Party) (P : List Pin) : law12_Few k v L P = some (decide ((v.Seats.length ≤ 40 ∧ v.Kills.length ≤ 40 ∧ v.Poles.length ≤ 40) ∧ L.length ≤ 8 ∧ P.length ≤ 8)) := by
  unfold law12_Few
  rw [bindS (law3_Few_eq k v)]
  by_cases h : v.Seats.length ≤ 40 ∧ v.Kills.length ≤ 40 ∧ v.Poles.length ≤ 40
  · rw [decide_eq_true h, cond_true]
    by_cases h1 : L.length ≤ 8
    · rw [condD (by omega)]
      congr 1
      rw [decide_eq_decide]
      constructor
      · intro h2; exact ⟨h, h1, by omega⟩
      · intro h2; omega
    · rw [condN (by omega), decide_eq_false (fun x => h1 x.2.1)]
  · rw [decide_eq_false h, cond_false, decide_eq_false (fun x => h x.1)]
theorem BoundAsks_true (a0 : Venue) (h0 : okVenue a0) (a1 : List Party) (h1 : okLParty a1) (a2 : List Int) (h2 : okLI a2) (a3 : List Pin) (h3 : okLPin a3) (a4 : Int) (h4 : okI a4) (a5 : Int) (h5 : okI a5) : ∃ k, law13_BoundAsks k a0 a1 a2 a3 a4 a5 = some true := by
  refine ⟨20000, ?_⟩
  unfold law13_BoundAsks
  rw [bindS (law12_Few_eq _ _ _ _)]
  by_cases hnf : ¬ ((a0.Seats.length ≤ 40 ∧ a0.Kills.length ≤ 40 ∧ a0.Poles.length ≤ 40) ∧ a1.length ≤ 8 ∧ a3.length ≤ 8)
  · rw [condNF hnf, bindS rfl, cond_true, bindS law13_told_eq]
  have hf := Classical.not_not.1 hnf
  rw [condNT hf, bindS rfl]
  by_cases hq : (8 : Int) < (a2.length : Int)
  · rw [condD hq, bindS law13_told_eq]
  rw [condN hq]
  have hv : Small 20000 a0 := ⟨by omega, by omega, by omega, by omega, by omega⟩
  have ho : ∀ i : Nat, i < a3.length → okI (aI a3 (i : Int)).First := fun i hi => (h3.2 _ (aI_mem (by omega) (by omega))).2
  have hr : ∀ i : Nat, i < a2.length → okI (aI a2 (i : Int)) := fun i hi => h2.2 _ (aI_mem (by omega) (by omega))
  have hw1 : IntKind.u64.wrap (wr ((a1.length : Int) + 1)) = (a1.length : Int) + 1 := by rw [wr_id (by omega) (by omega), wu_id (by omega) (by omega)]
  have hw2 : IntKind.u64.wrap (wr ((a0.Seats.length : Int) + 2)) = (a0.Seats.length : Int) + 2 := by rw [wr_id (by omega) (by omega), wu_id (by omega) (by omega)]
  have step : ∀ (n : Nat) (s t q : Int), q < 2 → 0 ≤ q → law13_BoundAsks_l0 20000 a0 a1 a2 a3 (n + 1) s t q = law13_BoundAsks_l0 20000 a0 a1 a2 a3 n (wr ((IntKind.u64.wrap s).tmod (IntKind.u64.wrap (wr ((a1.length : Int) + 1))))) (wr ((wr ((IntKind.u64.wrap t).tmod (IntKind.u64.wrap (wr ((a0.Seats.length : Int) + 2))))) - 1)) (wr (q + 1)) := fun n s t q hq hq0 => by
    have hol : (if dB (StateP a0 a1 a3 a2 ∧ (a2.length : Int) ≤ s ∧ s < a1.length) = true then openL a0 a1 a3 a2 s else []).length ≤ 40 := by
      split
      · have := openL_len (v := a0) (L := a1) (P := a3) (r := a2) (i := s); omega
      · simp
    rw [law13_BoundAsks_l0, condD hq, bindS (bound_Next_eq hv (by omega) (by omega) (by omega) ho (by omega) hr t), bindS (ref6_NextOf_eq hv (by omega) (by omega) (by omega) (by omega) t), bindS (bound_May_eq hv (by omega) (by omega) (by omega) ho (by omega) hr), bindS (ref6_MayState_eq hv (by omega) (by omega) (by omega) (by omega)), beq_self_eq_true, cNT,
      bindS (bound_Open_eq hv (by omega) (by omega) (by omega) ho (by omega) hr s), bindS (ref6_OpenOf_eq hv (by omega) (by omega) (by omega) (by omega) s), bindS (sameInts_refl _ _ (by omega) (by omega)), cNT, bindS (bound_Most_eq hv (by omega) (by omega) (by omega) ho (by omega) hr), bindS (ref6_MostOf_eq hv (by omega) (by omega) (by omega) (by omega)), condNT rfl]
    rw [gdD (by rw [hw1]; omega), gdD (by rw [hw2]; omega)]
    cases dB (NextP a0 a1 a3 a2 t)
    · rw [if_neg (by simp), if_neg (by simp)]
      simp only
      rw [beq_self_eq_true, cNT, bindS (sameInts_refl _ _ (by simp) (by simp)), cNT]
    · rw [if_pos rfl, if_pos rfl]
      simp only
      rw [beq_self_eq_true, cNT, bindS (sameInts_refl _ _ (by simp; omega) (by simp; omega)), cNT]
  have e1 := step 19999 a4 a5 0 (by omega) (by omega)
  have e2 := step 19998 (wr ((IntKind.u64.wrap a4).tmod (IntKind.u64.wrap (wr ((a1.length : Int) + 1))))) (wr ((wr ((IntKind.u64.wrap a5).tmod (IntKind.u64.wrap (wr ((a0.Seats.length : Int) + 2))))) - 1)) 1 (by omega) (by omega)
  rw [e1, show wr (0 + 1) = 1 by decide, e2, show wr (1 + 1) = 2 by decide, law13_BoundAsks_l0, condN (by omega), bindS rfl, elim_go, bindS law13_told_eq]
end Go.Px
