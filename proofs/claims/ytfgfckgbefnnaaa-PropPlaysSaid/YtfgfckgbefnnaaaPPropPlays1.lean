/- The plain law, in parts: PlanPins, Bound, Bounds, BoundAsks, BoundMost, Prop, PropLaws, PropPlays. -/
import Derived.Test.YtfgfckgbefnnaaaPPropPlays0
set_option linter.unusedVariables false
set_option linter.unusedSimpArgs false
namespace Go.Px
open Go Go.Sh
section
variable {v : Venue} {L : List Party}
theorem PlanP.pins {P : List Pin} {r : List Int} (h : PlanP v L [] r) (hP : PinOK v L P) (hh : ∀ i : Nat, i < P.length → aI r (aI P (i : Int)).Party = (aI P (i : Int)).First) : PlanP v L P r :=
 ⟨⟨h.inn.1, hP, h.inn.2.2⟩, h.len, fun i hi => ⟨fun f hf => by
  obtain ⟨j, h1, h2, h3⟩ := pinAt_some hf
  have := hh j h1
  rw [h2] at this
  rw [this, h3], (h.at_ i hi).pl, (h.at_ i hi).ap⟩⟩
theorem PlanP.held {P : List Pin} {r : List Int} (h : PlanP v L P r) {i : Nat} (hi : i < P.length) : aI r (aI P (i : Int)).Party = (aI P (i : Int)).First := by
 have hG := h.inn.2.1 i hi
 have h1 := hG.lo
 have h2 := hG.hi
 have := (h.at_ (aI P (i : Int)).Party.toNat (by rw [h.len]; omega)).pin (aI P (i : Int)).First
 rw [show (((aI P (i : Int)).Party.toNat : Nat) : Int) = (aI P (i : Int)).Party by omega] at this
 exact this (pinAt_get h.inn.2.1.rise hi)
end
end Go.Px

set_option linter.unusedVariables false
set_option linter.unusedSimpArgs false
namespace Go.Px
open Go Go.Sh
theorem mset_new {l : List (Int × Int)} {x v : Int} : mget l x = none → mset l x v = l ++ [(x, v)] := by
 induction l with
 | nil => intro _; rfl
 | cons p l ih =>
  intro h
  rw [mget_cons] at h
  split at h
  ·cases h
  ·rename_i hne
   rw [mset, if_neg hne, ih h]
   rfl
/-- The map of the pins has each pin once. -/
theorem pmN_mem {P : List Pin} (hP : RiseP P) {p : Int × Int} : ∀ {n : Nat}, n ≤ P.length → (p ∈ pmN P n ↔ ∃ i : Nat, i < n ∧ p = ((aI P (i : Int)).Party, (aI P (i : Int)).First))
 | 0, _ => by
  rw [pmN]
  exact ⟨fun h => (by cases h), fun ⟨i, h, _⟩ => absurd h (by omega)⟩
 | n + 1, hn => by
  have hnone : mget (pmN P n) (aI P (n : Int)).Party = none := by
   cases hm : mget (pmN P n) (aI P (n : Int)).Party with
   | none => rfl
   | some f =>
    obtain ⟨i, h1, h2, _⟩ := pmN_some hm
    have := hP i n h1 (by omega)
    omega
  rw [pmN, mset_new hnone, List.mem_append, pmN_mem hP (by omega), List.mem_singleton]
  constructor
  ·rintro (⟨i, h1, h2⟩ | h)
   ·exact ⟨i, by omega, h2⟩
   ·exact ⟨n, by omega, h⟩
  ·rintro ⟨i, h1, h2⟩
   rcases Nat.lt_or_ge i n with q | q
   ·exact .inl ⟨i, q, h2⟩
   ·right; rw [h2, show i = n by omega]
/-- A state that may be. -/
structure StateP (v : Venue) (L : List Party) (P : List Pin) (r : List Int) : Prop where
 inn : InOK v L P
 len : r.length ≤ L.length
 at_ : ∀ i, i < r.length → OkAt v L P r i
/-- A first seat of a party is free: beside all that is planned, and all that is pinned. -/
structure FreeP (v : Venue) (L : List Party) (P : List Pin) (r : List Int) (i : Int) (s : Int) : Prop where
 plan : ∀ j : Nat, j < r.length → ¬ aI r (j : Int) = -1 → aptB v (aI L i) s (aI L (j : Int)) (aI r (j : Int)) = true
 pins : ∀ j : Nat, j < P.length → ¬ (aI P (j : Int)).Party = i → aptB v (aI L i) s (aI L (aI P (j : Int)).Party) (aI P (j : Int)).First = true
/-- What is open for a party. -/
noncomputable def openL (v : Venue) (L : List Party) (P : List Pin) (r : List Int) (i : Int) : List Int := (allV v (aI L i)).filter fun s => dB (FreeP v L P r i s ∧ ∀ f, pinAt P i = some f → s = f)
section
variable {k : Nat} {v : Venue} {L : List Party} {P : List Pin} {r : List Int}
theorem StateP.ge (hv : Small k v) (h : StateP v L P r) {j : Nat} (hj : j < r.length) (hn : ¬ aI r (j : Int) = -1) : 0 ≤ aI r (j : Int) := (plB_in hv ((h.at_ j hj).pl hn)).2.2.1
/- the strike-out -/
theorem filter_one {l : List Int} (hl : l.Pairwise (· < ·)) {p : Int → Bool} {f : Int} (hf : f ∈ l) (hp : ∀ s, p s = true → s = f) : l.filter p = if p f = true then [f] else [] := by
 induction l with
 | nil => cases hf
 | cons x l ih =>
  rw [List.pairwise_cons] at hl
  rw [List.filter_cons]
  rcases List.mem_cons.1 hf with rfl | h
  ·have hn : l.filter p = [] := List.filter_eq_nil_iff.2 fun s hs h => by
    have := hl.1 s hs
    have := hp s h
    omega
   rw [hn]
  ·have hx : ¬ p x = true := fun h' => by
    have := hl.1 f h
    have := hp x h'
    omega
   rw [if_neg hx]
   exact ih hl.2 h
theorem allV_sorted (p : Party) : (allV v p).Pairwise (· < ·) := by
 unfold allV
 cases mayB v
 ·exact List.Pairwise.nil
 ·exact allL_sorted _ _ _
theorem ref6_free_eq (hv : Small k v) (hk : 1000 < k) (hst : StateP v L P r) (hrk : r.length < k) (hPk : P.length < k) {i : Int} (hi : 0 ≤ i ∧ i < L.length) (s : Int) : ref6_Hall_free k (Ref6Hall.mk v (usL v)) L r P i s = some (dB (FreeP v L P r i s)) := by
 have hb := hv.b
 have hM := hst.inn.1
 have hrl := hst.len
 unfold ref6_Hall_free
 have e := scanB (F := fun n j => ref6_Hall_free_l0 k (Ref6Hall.mk v (usL v)) L r i s n (j : Int)) (len := r.length) (k := k) (fun j => ¬ aI r (j : Int) = -1 → aptB v (aI L i) s (aI L (j : Int)) (aI r (j : Int)) = true) (t := ()) (r := false)
  (fun n j hj _ hg => by
   rw [ref6_Hall_free_l0, condD (by omega), bindS (idx_aI (by omega) (by omega)), wr_succ (by omega)]
   by_cases h1 : aI r (j : Int) = -1
   ·rw [condNT h1]
   ·rw [condNF h1, bindS (idx_aI hi.1 hi.2), bindS (idx_aI (l := L) (by omega) (by omega)), bindS (idx_aI (by omega) (by omega)), bindS (rhall_Apart hv hM hk _ _ _ _), hg h1, cNT])
  (fun n j hj _ hg => by
   obtain ⟨h1, h2⟩ := Classical.not_imp.1 hg
   rw [ref6_Hall_free_l0, condD (by omega), bindS (idx_aI (by omega) (by omega)), condNF h1, bindS (idx_aI hi.1 hi.2), bindS (idx_aI (l := L) (by omega) (by omega)), bindS (idx_aI (by omega) (by omega)), bindS (rhall_Apart hv hM hk _ _ _ _), Bool.eq_false_iff.2 h2, cNF])
  (fun n _ => by
   rw [ref6_Hall_free_l0, condN (by omega)]) hrk
 have e : ref6_Hall_free_l0 k (Ref6Hall.mk v (usL v)) L r i s k 0 = _ := e
 have e1 := scanB (F := fun n j => ref6_Hall_free_l1 k (Ref6Hall.mk v (usL v)) L P i s n (j : Int)) (len := P.length) (k := k) (fun j => ¬ (aI P (j : Int)).Party = i → aptB v (aI L i) s (aI L (aI P (j : Int)).Party) (aI P (j : Int)).First = true) (t := ()) (r := false)
  (fun n j hj _ hg => by
   have hG := hst.inn.2.1 j hj
   rw [ref6_Hall_free_l1, condD (by omega), bindS (idx_aI (by omega) (by omega)), wr_succ (by omega)]
   by_cases h1 : (aI P (j : Int)).Party = i
   ·rw [condNT h1]
   ·rw [condNF h1, bindS (idx_aI hi.1 hi.2), bindS (idx_aI hG.lo hG.hi), bindS (idx_aI (by omega) (by omega)), bindS (rhall_Apart hv hM hk _ _ _ _), hg h1, cNT])
  (fun n j hj _ hg => by
   have hG := hst.inn.2.1 j hj
   obtain ⟨h1, h2⟩ := Classical.not_imp.1 hg
   rw [ref6_Hall_free_l1, condD (by omega), bindS (idx_aI (by omega) (by omega)), condNF h1, bindS (idx_aI hi.1 hi.2), bindS (idx_aI hG.lo hG.hi), bindS (idx_aI (by omega) (by omega)), bindS (rhall_Apart hv hM hk _ _ _ _), Bool.eq_false_iff.2 h2, cNF])
  (fun n _ => by
   rw [ref6_Hall_free_l1, condN (by omega)]) hPk
 have e1 : ref6_Hall_free_l1 k (Ref6Hall.mk v (usL v)) L P i s k 0 = _ := e1
 rw [bindS e]
 rcases Classical.em (∀ j : Nat, j < r.length → ¬ aI r (j : Int) = -1 → aptB v (aI L i) s (aI L (j : Int)) (aI r (j : Int)) = true) with h | h
 ·rw [dB_T h, if_pos rfl, elim_go, bindS e1]
  rcases Classical.em (∀ j : Nat, j < P.length → ¬ (aI P (j : Int)).Party = i → aptB v (aI L i) s (aI L (aI P (j : Int)).Party) (aI P (j : Int)).First = true) with h' | h'
  ·rw [dB_T h', if_pos rfl, elim_go, dB_T ⟨h, h'⟩]
  ·rw [dB_F h', if_neg (by simp), elim_rt, dB_F (fun x => h' x.pins)]
 ·rw [dB_F h, if_neg (by simp), elim_rt, dB_F (fun x => h x.plan)]
theorem ref6_Open_eq (hv : Small k v) (hk : 1000 < k) (hst : StateP v L P r) (hrk : r.length < k) (hPk : P.length < k) {i : Int} (hi : 0 ≤ i ∧ i < L.length) : ref6_Hall_Open k (Ref6Hall.mk v (usL v)) L r P i = some (openL v L P r i) := by
 have hb := hv.b
 have hM := hst.inn.1
 have hall : ref6_Hall_All k (Ref6Hall.mk v (usL v)) (aI L i) = some (allV v (aI L i)) := by
  rw [ref6_Hall_All_eq _ hv.hs hb hk]
  unfold allV
  rw [mayB_iff.2 hM]
  rfl
 have hal := allV_len v (aI L i)
 have hN := hv.hs
 unfold ref6_Hall_Open openL
 rw [bindS (idx_aI hi.1 hi.2), bindS hall, bindS (ref6_pinned_eq hst.inn.2.1.rise hPk hb i)]
 generalize allV v (aI L i) = A at hal
 have e2 := gather0 (f := fun n a j => ref6_Hall_Open_l0 k (Ref6Hall.mk v (usL v)) L r P i A ((pinAt P i).getD (-1), (pinAt P i).isSome) n a j) (len := A.length) (c := 0) (fun j : Nat => dB (FreeP v L P r i (aI A (j : Int)) ∧ ∀ f, pinAt P i = some f → aI A (j : Int) = f)) (fun j : Nat => aI A (j : Int))
   (fun n j w hj hw => by
    show ref6_Hall_Open_l0 k (Ref6Hall.mk v (usL v)) L r P i A ((pinAt P i).getD (-1), (pinAt P i).isSome) (n + 1) w (j : Int) = ref6_Hall_Open_l0 k (Ref6Hall.mk v (usL v)) L r P i A ((pinAt P i).getD (-1), (pinAt P i).isSome) n _ _
    have hc : (Option.bind (idx A (j : Int)) fun y74 => Option.bind (ref6_Hall_free k (Ref6Hall.mk v (usL v)) L r P i y74) fun r76 => cond r76 (cond (!(pinAt P i).isSome) (some true) (Option.bind (idx A (j : Int)) fun y80 => some (decide (y80 = (pinAt P i).getD (-1))))) (some false)) = some (dB (FreeP v L P r i (aI A (j : Int)) ∧ ∀ f, pinAt P i = some f → aI A (j : Int) = f)) := by
     rw [bindS (idx_aI (by omega) (by omega)), bindS (ref6_free_eq hv hk hst hrk hPk hi _), bindS (idx_aI (by omega) (by omega))]
     rcases Classical.em (FreeP v L P r i (aI A (j : Int))) with h | h
     ·rw [dB_T h, cond_true]
      cases pinAt P i with
      | none => rw [Option.isSome_none, cNF, dB_T ⟨h, fun f e => by cases e⟩]
      | some f =>
       rw [Option.isSome_some, cNT, Option.getD_some]
       by_cases h2 : aI A (j : Int) = f
       ·rw [decide_eq_true h2, dB_T ⟨h, fun f' e => by cases e; exact h2⟩]
       ·rw [decide_eq_false h2, dB_F (fun x => h2 (x.2 f rfl))]
     ·rw [dB_F h, cond_false, dB_F (fun x => h x.1)]
    rw [ref6_Hall_Open_l0, condD (by omega), wr_succ (by omega)]
    simp only
    rw [bindS hc]
    cases dB (FreeP v L P r i (aI A (j : Int)) ∧ ∀ f, pinAt P i = some f → aI A (j : Int) = f)
    ·rw [cond_false, if_neg (by simp)]
    ·rw [cond_true, bindS (idx_aI (by omega) (by omega)), gdD (by simp only [List.length_singleton]; omega), if_pos rfl])
   (fun n w => by show ref6_Hall_Open_l0 k (Ref6Hall.mk v (usL v)) L r P i A ((pinAt P i).getD (-1), (pinAt P i).isSome) (n + 1) w _ = _; rw [ref6_Hall_Open_l0, condN (by omega)])
   (k := k) (by omega) [] (by simp)
 have e2 : ref6_Hall_Open_l0 k (Ref6Hall.mk v (usL v)) L r P i A ((pinAt P i).getD (-1), (pinAt P i).isSome) k [] 0 = _ := e2
 rw [bindS e2, List.nil_append]
 congr 1
 have h := range_map_aI (l := A) (f := fun s => s)
 have h2 : ((List.range A.length).map (fun j : Nat => aI A (j : Int))) = A := by rw [h, List.map_id']
 have h3 : ∀ (p : Int → Bool) (R : List Nat), (R.filter (fun j : Nat => p (aI A (j : Int)))).map (fun j : Nat => aI A (j : Int)) = (R.map (fun j : Nat => aI A (j : Int))).filter p := fun p R => by
  rw [List.filter_map]
  rfl
 rw [h3 (fun s => dB (FreeP v L P r i s ∧ ∀ f, pinAt P i = some f → s = f)), h2]
end
end Go.Px

set_option linter.unusedVariables false
set_option linter.unusedSimpArgs false
namespace Go.Px
open Go Go.Sh
theorem aI_take {α : Type} [Inhabited α] {l : List α} {n : Nat} {x : Int} (h0 : 0 ≤ x) (h : x < (n : Int)) : aI (l.take n) x = aI l x := by
 unfold aI
 rw [List.getD_eq_getElem?_getD, List.getD_eq_getElem?_getD, List.getElem?_take_of_lt (by omega)]
theorem among_take {P : List Pin} (hP : RiseP P) (n : Int) : ∀ t : Nat, t ≤ P.length → ∃ m, m ≤ t ∧ (P.take t).filter (fun p => decide (p.Party < n)) = P.take m ∧ (∀ i : Nat, i < m → (aI P (i : Int)).Party < n) ∧ ∀ i : Nat, m ≤ i → i < t → n ≤ (aI P (i : Int)).Party
 | 0, _ => ⟨0, Nat.le_refl _, by simp, fun i h => absurd h (by omega), fun i _ h => absurd h (by omega)⟩
 | t + 1, ht => by
  obtain ⟨m, h1, h2, h3, h4⟩ := among_take hP n t (by omega)
  have e : P.take (t + 1) = P.take t ++ [aI P (t : Int)] := by
   rw [List.take_add_one, List.getElem?_eq_getElem (by omega)]
   congr 1
   unfold aI
   rw [Int.toNat_natCast, List.getD_eq_getElem?_getD, List.getElem?_eq_getElem (by omega)]
   rfl
  by_cases h : (aI P (t : Int)).Party < n
  ·have hm : m = t := by
    rcases Nat.lt_or_ge m t with q | q
    ·have a := h4 m (Nat.le_refl _) q
     have b := hP m t q (by omega)
     omega
    ·omega
   subst hm
   refine ⟨m + 1, Nat.le_refl _, ?_, fun i hi => ?_, fun i a b => absurd b (by omega)⟩
   ·rw [e, List.filter_append, h2]
    simp [h]
   ·rcases Nat.lt_or_ge i m with q | q
    ·exact h3 i q
    ·rw [show i = m by omega]; exact h
  ·refine ⟨m, by omega, ?_, h3, fun i a b => ?_⟩
   ·rw [e, List.filter_append, h2]
    simp [h]
   ·rcases Nat.lt_or_ge i t with q | q
    ·exact h4 i a q
    ·rw [show i = t by omega]; omega
section
variable {k : Nat} {v : Venue} {L : List Party} {P : List Pin} {r : List Int}
theorem ref6_among_eq (hP : P.length < k) (hb : k ≤ 4294967290) (n : Int) : ref6_among k P n = some (P.filter (fun p => decide (p.Party < n))) := by
 unfold ref6_among
 have e2 := gather0 (f := fun m a i => ref6_among_l0 k P n m a i) (len := P.length) (c := 0) (fun j : Nat => decide ((aI P (j : Int)).Party < n)) (fun j : Nat => aI P (j : Int))
  (fun m i w hi hw => by
   show ref6_among_l0 k P n (m + 1) w (i : Int) = ref6_among_l0 k P n m _ _
   rw [ref6_among_l0, condD (by omega), bindS (idx_aI (by omega) (by omega)), wr_succ (by omega)]
   by_cases h : (aI P (i : Int)).Party < n
   ·rw [condD h, decide_eq_true h, bindS (idx_aI (by omega) (by omega)), gdD (by simp only [List.length_singleton]; omega), if_pos rfl]
   ·rw [condN h, decide_eq_false h, if_neg (by simp)])
  (fun m w => by show ref6_among_l0 k P n (m + 1) w _ = _; rw [ref6_among_l0, condN (by omega)])
  (k := k) hP [] (by simp)
 have e2 : ref6_among_l0 k P n k [] 0 = _ := e2
 have h := range_map_aI (l := P) (f := fun s => s)
 have h2 : ((List.range P.length).map (fun j : Nat => aI P (j : Int))) = P := by rw [h, List.map_id']
 have h3 : ∀ (p : Pin → Bool) (R : List Nat), (R.filter (fun j : Nat => p (aI P (j : Int)))).map (fun j : Nat => aI P (j : Int)) = (R.map (fun j : Nat => aI P (j : Int))).filter p := fun p R => by
  rw [List.filter_map]
  rfl
 rw [bindS e2, List.nil_append, h3 (fun p => decide (p.Party < n)), h2]
theorem pinAt_take (hP : RiseP P) {m : Nat} (hm : m ≤ P.length) {i : Int} (h4 : ∀ j : Nat, m ≤ j → j < P.length → ¬ (aI P (j : Int)).Party = i) {f : Int} : pinAt (P.take m) i = some f ↔ pinAt P i = some f := by
 have hl : (P.take m).length = m := by rw [List.length_take]; omega
 have hR : RiseP (P.take m) := fun a b hab hb => by
  rw [hl] at hb
  rw [aI_take (by omega) (by omega), aI_take (by omega) (by omega)]
  exact hP a b hab (by omega)
 constructor
 ·intro h
  obtain ⟨j, h1, h2, h3⟩ := pinAt_some h
  rw [hl] at h1
  rw [aI_take (by omega) (by omega)] at h2 h3
  rw [← h2, ← h3]
  exact pinAt_get hP (by omega)
 ·intro h
  obtain ⟨j, h1, h2, h3⟩ := pinAt_some h
  have hj : j < m := by
   rcases Nat.lt_or_ge j m with q | q
   ·exact q
   ·exact absurd h2 (h4 j q h1)
  have := pinAt_get hR (i := j) (by omega)
  rw [aI_take (by omega) (by omega), h2, h3] at this
  exact this
theorem StateP_iff (hI : InOK v L P) (hl : r.length ≤ L.length) : PlanP v (L.take r.length) (P.filter (fun p => decide (p.Party < (r.length : Int)))) r ↔ StateP v L P r := by
 obtain ⟨m, h1, h2, h3, h4⟩ := among_take hI.2.1.rise (r.length : Int) P.length (Nat.le_refl _)
 rw [List.take_length] at h2
 rw [h2]
 have hLl : (L.take r.length).length = r.length := by rw [List.length_take]; omega
 have hpin : ∀ (i : Nat) (f : Int), i < r.length → (pinAt (P.take m) (i : Int) = some f ↔ pinAt P (i : Int) = some f) := fun i f hi => pinAt_take hI.2.1.rise h1 (fun j a b e => by have := h4 j a b; omega)
 have hat : ∀ i : Nat, i < r.length → (OkAt v (L.take r.length) (P.take m) r i ↔ OkAt v L P r i) := fun i hi => by
  constructor
  ·intro h
   refine ⟨fun f hf => h.pin f ((hpin i f hi).2 hf), fun hn => ?_, fun hn j hj hnj => ?_⟩
   ·have := h.pl hn
    rw [aI_take (by omega) (by omega)] at this
    exact this
   ·have := h.ap hn j hj hnj
    rw [aI_take (by omega) (by omega), aI_take (by omega) (by omega)] at this
    exact this
  ·intro h
   refine ⟨fun f hf => h.pin f ((hpin i f hi).1 hf), fun hn => ?_, fun hn j hj hnj => ?_⟩
   ·rw [aI_take (by omega) (by omega)]
    exact h.pl hn
   ·rw [aI_take (by omega) (by omega), aI_take (by omega) (by omega)]
    exact h.ap hn j hj hnj
 constructor
 ·intro h
  exact ⟨hI, hl, fun i hi => (hat i hi).1 (h.at_ i hi)⟩
 ·intro h
  refine ⟨⟨hI.1, fun i hi => ?_, by have := hI.2.2.1; omega, fun i hi => ?_⟩, hLl.symm, fun i hi => (hat i hi).2 (h.at_ i hi)⟩
  ·have hm : (P.take m).length = m := by rw [List.length_take]; omega
   rw [hm] at hi
   have hG := hI.2.1 i (by omega)
   have ht := h3 i hi
   refine ⟨by rw [aI_take (by omega) (by omega)]; exact hG.lo, by rw [aI_take (by omega) (by omega), hLl]; exact ht, fun h0 => ?_, ?_, fun j hj => ?_⟩
   ·rw [aI_take (by omega) (by omega), aI_take (by omega) (by omega)]
    exact hG.rise h0
   ·rw [aI_take (l := P) (by omega) (by omega), aI_take (l := L) hG.lo ht]
    exact hG.pl
   ·have := h3 j (by omega)
    rw [aI_take (l := P) (by omega) (by omega), aI_take (l := P) (by omega) (by omega), aI_take (l := L) hG.lo ht, aI_take (l := L) (hI.2.1 j (by omega)).lo this]
    exact hG.ap j hj
  ·rw [hLl] at hi
   rw [aI_take (by omega) (by omega)]
   exact hI.2.2.2 i (by omega)
theorem ref6_MayState_eq (hv : Small k v) (hk : 1000 < k) (hL : L.length < k) (hP : P.length < k) (hrk : r.length < k) : ref6_MayState k v L P r = some (dB (StateP v L P r)) := by
 have hb := hv.b
 unfold ref6_MayState
 rw [bindS (ref6_MayPins_eq hv hk hL hP)]
 rcases Classical.em (InOK v L P) with h | h
 ·rw [dB_T h, cond_true]
  by_cases hl : (r.length : Int) ≤ (L.length : Int)
  ·have hs : slc L 0 (r.length : Int) = some (L.take r.length) := by
    rw [slc_eq ⟨by omega, by omega, by omega⟩, show (r.length : Int).toNat - (0 : Int).toNat = r.length by omega]
    rfl
   have hf : (P.filter (fun p => decide (p.Party < (r.length : Int)))).length ≤ P.length := List.length_filter_le _ _
   rw [condD hl, if_neg (by omega), bindS hs, bindS (ref6_among_eq hP hb _), bindS (ref6_MayPlan_eq hv hk (by rw [List.length_take]; omega) (by omega))]
   congr 1
   rw [Bool.eq_iff_iff, dB_iff, dB_iff]
   exact StateP_iff h (by omega)
  ·rw [condN hl, dB_F (fun x => by have := x.len; omega)]
 ·rw [dB_F h, cond_false, dB_F (fun x => h x.inn)]
/-- A party's place may be planned next. -/
def NextP (v : Venue) (L : List Party) (P : List Pin) (r : List Int) (x : Int) : Prop := StateP v L P r ∧ r.length < L.length ∧ ((x = -1 ∧ pinAt P (r.length : Int) = none) ∨ x ∈ openL v L P r (r.length : Int))
theorem openL_mem (hv : Small k v) {i s : Int} : s ∈ openL v L P r i ↔ plB v (aI L i) s = true ∧ FreeP v L P r i s ∧ ∀ f, pinAt P i = some f → s = f := by
 unfold openL
 rw [List.mem_filter, allV_mem hv, dB_iff]
theorem openL_ge (hv : Small k v) {i s : Int} (h : s ∈ openL v L P r i) : 0 ≤ s := (plB_in hv ((openL_mem hv).1 h).1).2.2.1
theorem openL_len {i : Int} : (openL v L P r i).length ≤ v.Seats.length := by
 unfold openL
 have := List.length_filter_le (fun s => dB (FreeP v L P r i s ∧ ∀ f, pinAt P i = some f → s = f)) (allV v (aI L i))
 have := allV_len v (aI L i)
 omega
theorem ref6_NextOf_eq (hv : Small k v) (hk : 1000 < k) (hL : L.length < k) (hP : P.length < k) (hrk : r.length < k) (x : Int) : ref6_NextOf k v L P r x = some (if dB (NextP v L P r x) = true then (r ++ [x], true) else ([], false)) := by
 have hb := hv.b
 unfold ref6_NextOf
 rw [bindS (ref6_MayState_eq hv hk hL hP hrk)]
 rcases Classical.em (StateP v L P r) with h | h
 ·rw [dB_T h, cNT, bindS rfl]
  by_cases hl : (L.length : Int) ≤ (r.length : Int)
  ·rw [condD hl, dB_F (fun y => by have := y.2.1; omega), if_neg (by simp)]
  ·rw [condN hl, bindS (ref6_pinned_eq h.inn.2.1.rise hP hb _)]
   simp only
   by_cases h0 : x = -1 ∧ pinAt P (r.length : Int) = none
   ·rw [condD h0.1, h0.2, Option.isSome_none, bindS rfl, dB_T ⟨h, by omega, .inl h0⟩]
    rw [Bool.not_false, cond_true, gdD (by simp only [List.length_nil]; omega), gdD (by simp only [List.nil_append, List.length_singleton]; omega), if_pos rfl, List.nil_append, h0.1]
   ·have hc : (cond (decide (x = -1)) (some (!(pinAt P (r.length : Int)).isSome)) (some false)) = some false := by
     by_cases h1 : x = -1
     ·rw [condD h1]
      cases hp : pinAt P (r.length : Int) with
      | none => exact absurd ⟨h1, hp⟩ h0
      | some f => rfl
     ·rw [condN h1]
    have hol := openL_len (v := v) (L := L) (P := P) (r := r) (i := (r.length : Int))
    have hN := hv.hs
    rw [bindS hc, cond_false, bindS (ref6_NewHall_eq hv), mayB_iff.2 h.inn.1, cond_true, optc_some, bindS (ref6_Open_eq hv hk h hrk hP ⟨by omega, by omega⟩)]
    have hiff : dB (NextP v L P r x) = dB (x ∈ openL v L P r (r.length : Int)) := by
     rw [Bool.eq_iff_iff, dB_iff, dB_iff]
     exact ⟨fun y => by rcases y.2.2 with q | q; exact absurd q h0; exact q, fun y => ⟨h, by omega, .inr y⟩⟩
    rw [hiff]
    generalize openL v L P r (r.length : Int) = O at hol
    have e := scanB (F := fun n j => ref6_NextOf_l0 k r x O n (j : Int)) (len := O.length) (k := k) (fun j => ¬ aI O (j : Int) = x) (t := ()) (r := (r ++ [x], true))
     (fun n j hj _ hg => by
      rw [ref6_NextOf_l0, condD (by omega), bindS (idx_aI (by omega) (by omega)), condN hg, wr_succ (by omega)])
     (fun n j hj _ hg => by
      rw [ref6_NextOf_l0, condD (by omega), bindS (idx_aI (by omega) (by omega)), condD (Classical.not_not.1 hg), gdD (by simp only [List.length_nil]; omega), gdD (by simp only [List.nil_append, List.length_singleton]; omega), List.nil_append])
     (fun n _ => by
      rw [ref6_NextOf_l0, condN (by omega)]) (by omega)
    have e : ref6_NextOf_l0 k r x O k 0 = _ := e
    rw [bindS e]
    by_cases h2 : x ∈ O
    ·obtain ⟨j, hj, ej⟩ := mem_aI h2
     rw [dB_F (fun y => y j hj ej), if_neg (by simp), elim_rt, dB_T h2, if_pos rfl]
    ·rw [dB_T (fun j hj ej => h2 (by rw [← ej]; exact aI_mem (by omega) (by omega))), if_pos rfl, elim_go, dB_F h2, if_neg (by simp)]
 ·rw [dB_F h, cNF, bindS rfl, cond_true, dB_F (fun y => h y.1), if_neg (by simp)]
open Classical in
/-- How many persons at most. -/
noncomputable def mostN (v : Venue) (L : List Party) (P : List Pin) (r : List Int) : Nat → Int
 | 0 => 0
 | n + 1 => mostN v L P r n + if (n < r.length ∧ 0 ≤ aI r (n : Int)) ∨ (r.length ≤ n ∧ 0 < (openL v L P r (n : Int)).length) then (aI L (n : Int)).Size else 0
theorem mostN_bd (hA : AllMay L) : ∀ {n : Nat}, n ≤ L.length → 0 ≤ mostN v L P r n ∧ mostN v L P r n ≤ 8 * n
 | 0, _ => by rw [mostN]; omega
 | n + 1, h => by
  have := mostN_bd hA (n := n) (by omega)
  have := hA.2 n (by omega)
  rw [mostN]
  split <;> omega
/-- Both loops that count, once for all. -/
theorem most_gen (hst : StateP v L P r) {f : Nat → Int → Int → Option Int} {op : Int → Option (List Int)} (hop : ∀ i : Int, 0 ≤ i ∧ i < L.length → op i = some (openL v L P r i))
  (hs : ∀ (n i : Nat) (c : Int), i < L.length → f (n + 1) c (i : Int) = Option.bind (cond (decide ((i : Int) < (r.length : Int))) (Option.bind (idx r (i : Int)) fun y => cond (decide (0 ≤ y)) (some true) (cond (decide ((r.length : Int) ≤ (i : Int))) (Option.bind (op (i : Int)) fun q => some (decide (0 < (q.length : Int)))) (some false))) (cond (decide ((r.length : Int) ≤ (i : Int))) (Option.bind (op (i : Int)) fun q => some (decide (0 < (q.length : Int)))) (some false))) fun o => cond o (f n (wr (c + (aI L (i : Int)).Size)) ((i + 1 : Nat) : Int)) (f n c ((i + 1 : Nat) : Int)))
  (he : ∀ n c, f (n + 1) c (L.length : Int) = some c) : ∀ d n i : Nat, i + d = L.length → d < n → f n (mostN v L P r i) (i : Int) = some (mostN v L P r L.length)
 | d, 0, i, _, h => absurd h (by omega)
 | 0, n + 1, i, hi, _ => by rw [show i = L.length by omega, he]
 | d + 1, n + 1, i, hi, hd => by
  have hA := hst.inn.2.2
  have h1 := hA.1
  have h2 := hA.2 i (by omega)
  have h3 := mostN_bd (v := v) (P := P) (r := r) hA (n := i) (by omega)
  have ih := most_gen hst hop hs he d n (i + 1) (by omega) (by omega)
  rw [mostN] at ih
  rw [hs n i _ (by omega)]
  by_cases hr : (i : Int) < (r.length : Int)
  ·rw [condD hr, bindS (idx_aI (by omega) hr)]
   by_cases h : 0 ≤ aI r (i : Int)
   ·rw [if_pos (.inl ⟨by omega, h⟩)] at ih
    rw [condD h, bindS rfl, cond_true, wr_id (by omega) (by omega), ih]
   ·rw [if_neg (fun x => by rcases x with x | x; exact h x.2; have := x.1; omega), Int.add_zero] at ih
    rw [condN h, condN (by omega), bindS rfl, cond_false, ih]
  ·rw [condN hr, condD (by omega), bindS (hop _ ⟨by omega, by omega⟩), bindS rfl]
   by_cases h : 0 < (openL v L P r (i : Int)).length
   ·rw [if_pos (.inr ⟨by omega, h⟩)] at ih
    rw [condD (by omega), wr_id (by omega) (by omega), ih]
   ·rw [if_neg (fun x => by rcases x with x | x; have := x.1; omega; exact h x.2), Int.add_zero] at ih
    rw [condN (by omega), ih]
theorem ref6_MostOf_eq (hv : Small k v) (hk : 1000 < k) (hL : L.length < k) (hP : P.length < k) (hrk : r.length < k) : ref6_MostOf k v L P r = some (if dB (StateP v L P r) = true then mostN v L P r L.length else 0) := by
 have hb := hv.b
 unfold ref6_MostOf
 rw [bindS (ref6_MayState_eq hv hk hL hP hrk)]
 rcases Classical.em (StateP v L P r) with h | h
 ·have e2 := most_gen h (f := fun n c i => ref6_Hall_Most_l0 k (Ref6Hall.mk v (usL v)) L r P n c i) (op := fun i => ref6_Hall_Open k (Ref6Hall.mk v (usL v)) L r P i) (fun i hi => ref6_Open_eq hv hk h hrk hP hi)
   (fun n i c hi => by
    show ref6_Hall_Most_l0 k (Ref6Hall.mk v (usL v)) L r P (n + 1) c (i : Int) = _
    rw [ref6_Hall_Most_l0, condD (by omega), bindS (idx_aI (l := L) (by omega) (by omega)), wr_succ (by omega)])
   (fun n c => by
    show ref6_Hall_Most_l0 k (Ref6Hall.mk v (usL v)) L r P (n + 1) c (L.length : Int) = _
    rw [ref6_Hall_Most_l0, condN (by omega)]) L.length k 0 (by omega) (by omega)
  have e2 : ref6_Hall_Most_l0 k (Ref6Hall.mk v (usL v)) L r P k 0 0 = _ := e2
  rw [dB_T h, cNT, bindS (ref6_NewHall_eq hv), mayB_iff.2 h.inn.1, cond_true, optc_some]
  unfold ref6_Hall_Most
  rw [bindS (x := Option.bind _ _) (by rw [bindS e2]), if_pos rfl]
 ·rw [dB_F h, cNF, if_neg (by simp)]
theorem ref6_OpenOf_eq (hv : Small k v) (hk : 1000 < k) (hL : L.length < k) (hP : P.length < k) (hrk : r.length < k) (i : Int) : ref6_OpenOf k v L P r i = some (if dB (StateP v L P r ∧ (r.length : Int) ≤ i ∧ i < L.length) = true then openL v L P r i else []) := by
 unfold ref6_OpenOf
 rw [bindS (ref6_MayState_eq hv hk hL hP hrk)]
 rcases Classical.em (StateP v L P r) with h | h
 ·rw [dB_T h, cNT]
  by_cases h1 : i < (r.length : Int)
  ·rw [condD h1, dB_F (fun x => by omega), if_neg (by simp)]
  rw [condN h1]
  by_cases h2 : (L.length : Int) ≤ i
  ·rw [condD h2, dB_F (fun x => by omega), if_neg (by simp)]
  ·rw [condN h2, bindS (ref6_NewHall_eq hv), mayB_iff.2 h.inn.1, cond_true, optc_some, bindS (ref6_Open_eq hv hk h hrk hP ⟨by omega, by omega⟩), dB_T ⟨h, by omega, by omega⟩, if_pos rfl]
 ·rw [dB_F h, cNF, dB_F (fun x => h x.1), if_neg (by simp)]
end
end Go.Px

set_option linter.unusedVariables false
set_option linter.unusedSimpArgs false
namespace Go.Px
open Go Go.Sh
end Go.Px

set_option linter.unusedVariables false
set_option linter.unusedSimpArgs false
namespace Go.Px
open Go Go.Sh
section
variable {k : Nat} {v : Venue} {L : List Party} {P : List Pin} {r : List Int}
theorem PlanP.state (h : PlanP v L P r) {n : Nat} : StateP v L P (r.take n) := by
 have hl := h.len
 refine ⟨h.inn, by rw [List.length_take]; omega, fun i hi => ?_⟩
 rw [List.length_take] at hi
 have hG := h.at_ i (by omega)
 refine ⟨fun f hf => by rw [aI_take (by omega) (by omega)]; exact hG.pin f hf, fun hn => ?_, fun hn j hj hnj => ?_⟩
 ·rw [aI_take (by omega) (by omega)] at hn ⊢
  exact hG.pl hn
 ·rw [aI_take (by omega) (by omega)] at hn hnj ⊢
  rw [aI_take (by omega) (by omega)]
  exact hG.ap hn j hj hnj
theorem PlanP.open (hv : Small k v) (h : PlanP v L P r) {n i : Nat} (hn : n ≤ i) (hi : i < L.length) (h1 : ¬ aI r (i : Int) = -1) : aI r (i : Int) ∈ openL v L P (r.take n) (i : Int) := by
 have hl := h.len
 have hG := h.at_ i (by omega)
 refine (openL_mem hv).2 ⟨hG.pl h1, ⟨fun j hj hnj => ?_, fun j hj hne => ?_⟩, hG.pin⟩
 ·rw [List.length_take] at hj
  rw [aI_take (by omega) (by omega)] at hnj ⊢
  exact hG.ap h1 j (by omega) hnj
 ·have hPG := h.inn.2.1 j hj
  have hh := h.held hj
  have h0 := hPG.lo
  have h2 := hPG.hi
  have h3 := (plB_in hv hPG.pl).2.2.1
  obtain ⟨x, hx⟩ := Int.eq_ofNat_of_zero_le h0
  have hx : (aI P (j : Int)).Party = (x : Int) := hx
  rw [hx] at hh hne h2 ⊢
  rw [← hh] at h3 ⊢
  rcases Nat.lt_or_ge x i with q | q
  ·exact hG.ap h1 x q (by omega)
  ·rw [aptB_symm]
   exact (h.at_ x (by omega)).ap (by omega) i (by omega) h1
theorem PlanP.next (hv : Small k v) (h : PlanP v L P r) {i : Nat} (hi : i < L.length) : NextP v L P (r.take i) (aI r (i : Int)) := by
 have hl := h.len
 have ht : (r.take i).length = i := by rw [List.length_take]; omega
 refine ⟨h.state, by omega, ?_⟩
 rw [ht]
 by_cases h1 : aI r (i : Int) = -1
 ·refine .inl ⟨h1, ?_⟩
  cases hp : pinAt P (i : Int) with
  | none => rfl
  | some f =>
   have := (h.at_ i (by omega)).pin f hp
   obtain ⟨j, hj, e1, e2⟩ := pinAt_some hp
   have := (plB_in hv (h.inn.2.1 j hj).pl).2.2.1
   omega
 ·exact .inr (h.open hv (Nat.le_refl i) hi h1)
structure BCtx (v : Venue) (L : List Party) (P : List Pin) : Prop where
 pr : Prob v L
 l4 : P.length ≤ 4
 ok : PinOK v L P
theorem BCtx.small (h : BCtx v L P) : Small 20000 v := h.pr.small (by omega) (by omega)
theorem StateP.ok (hv : Small k v) (h : StateP v L P r) : ∀ i : Nat, i < r.length → okI (aI r (i : Int)) := fun i hi => by
 by_cases h1 : aI r (i : Int) = -1
 ·rw [h1]; exact ⟨by omega, by omega⟩
 ·obtain ⟨_, h1, h2, h3⟩ := plB_in hv ((h.at_ i hi).pl h1)
  have := hv.hs
  have := hv.b
  exact ⟨by omega, by omega⟩
end
end Go.Px

set_option linter.unusedVariables false
set_option linter.unusedSimpArgs false
namespace Go.Px
open Go Go.Sh
noncomputable def domL (v : Venue) (L : List Party) (P : List Pin) (r : List Int) (i : Nat) : List Int := if i < r.length then (if aI r (i : Int) = -1 then [] else [aI r (i : Int)]) else openL v L P r (i : Int)
noncomputable def lvl (v : Venue) (L : List Party) (P : List Pin) (r : List Int) : List (List Int) := (List.range L.length).map (domL v L P r)
noncomputable def lvsL (v : Venue) (L : List Party) (P : List Pin) (r : List Int) : List (List (List Int)) := (List.range (r.length + 1)).map (fun m => lvl v L P (r.take m))
noncomputable def setOf (v : Venue) (L : List Party) (P : List Pin) : PlanSet := PlanSet.mk (PlaceHall.mk v (usL v)) L (pmN P P.length)
noncomputable def mkP (v : Venue) (L : List Party) (P : List Pin) (r : List Int) : PropProp := PropProp.mk (setOf v L P) (lvsL v L P r) r
theorem map_range_at {α : Type} [Inhabited α] {f : Nat → α} {n i : Nat} (h : i < n) : aI ((List.range n).map f) (i : Int) = f i := by
 unfold aI
 rw [Int.toNat_natCast, List.getD_eq_getElem?_getD, List.getElem?_map, List.getElem?_range h]
 rfl
section
variable {k : Nat} {v : Venue} {L : List Party} {P : List Pin} {r : List Int}
theorem lvl_len : (lvl v L P r).length = L.length := by unfold lvl; simp
theorem lvl_at {i : Nat} (h : i < L.length) : aI (lvl v L P r) (i : Int) = domL v L P r i := map_range_at h
theorem lvsL_len : (lvsL v L P r).length = r.length + 1 := by unfold lvsL; simp
theorem lvsL_at {m : Nat} (h : m ≤ r.length) : aI (lvsL v L P r) (m : Int) = lvl v L P (r.take m) := map_range_at (by omega)
theorem lvsL_snoc {x : Int} : lvsL v L P (r ++ [x]) = lvsL v L P r ++ [lvl v L P (r ++ [x])] := by
 unfold lvsL
 rw [List.length_append, List.length_singleton, List.range_succ, List.map_append]
 congr 1
 ·refine List.map_congr_left fun m hm => ?_
  have := List.mem_range.1 hm
  rw [List.take_append_of_le_length (by omega)]
 ·simp only [List.map_cons, List.map_nil]
  rw [List.take_of_length_le (by simp)]
theorem domL_pl (hv : Small k v) (hst : StateP v L P r) {i : Nat} (hi : i < L.length) {s : Int} (h : s ∈ domL v L P r i) : plB v (aI L (i : Int)) s = true := by
 unfold domL at h
 split at h
 ·rename_i hir
  split at h
  ·cases h
  ·rename_i hn
   rw [List.mem_singleton] at h
   rw [h]
   exact (hst.at_ i hir).pl hn
 ·exact ((openL_mem hv).1 h).1
theorem domL_len {i : Nat} (hn : 1 ≤ v.Seats.length) : (domL v L P r i).length ≤ v.Seats.length := by
 unfold domL
 split
 ·split
  ·simp
  ·simp; omega
 ·exact openL_len
theorem prop_apart_eq (hv : Small k v) (hM : MayV v) (hk : 1000 < k) {M : List (Int × Int)} {l : List Int} {i j f : Int} (hi : 0 ≤ i ∧ i < L.length) (hj : 0 ≤ j ∧ j < L.length) (hl : l.length < k) (hs : ∀ s, s ∈ l → plB v (aI L i) s = true) (hf : plB v (aI L j) f = true) :
  prop_apart k (PlanSet.mk (PlaceHall.mk v (usL v)) L M) l i j f = some (l.filter (fun s => aptB v (aI L i) s (aI L j) f)) := by
 have hb := hv.b
 unfold prop_apart
 have e2 := gather0 (f := fun n a q => prop_apart_l0 k (PlanSet.mk (PlaceHall.mk v (usL v)) L M) l i j f n a q) (len := l.length) (c := 0) (fun q : Nat => aptB v (aI L i) (aI l (q : Int)) (aI L j) f) (fun q : Nat => aI l (q : Int))
  (fun n q w hq hw => by
   show prop_apart_l0 k (PlanSet.mk (PlaceHall.mk v (usL v)) L M) l i j f (n + 1) w (q : Int) = prop_apart_l0 k (PlanSet.mk (PlaceHall.mk v (usL v)) L M) l i j f n _ _
   rw [prop_apart_l0]
   simp only
   rw [condD (by omega), bindS (idx_aI (by omega) (by omega)), bindS (idx_aI hi.1 hi.2), bindS (idx_aI hj.1 hj.2), bindS (hall_Apart hv hM hk (hs _ (aI_mem (by omega) (by omega))) hf), wr_succ (by omega)]
   cases aptB v (aI L i) (aI l (q : Int)) (aI L j) f
   ·rw [cond_false, if_neg (by simp)]
   ·rw [cond_true, gdD (by simp only [List.length_singleton]; omega), if_pos rfl])
  (fun n w => by show prop_apart_l0 k (PlanSet.mk (PlaceHall.mk v (usL v)) L M) l i j f (n + 1) w _ = _; rw [prop_apart_l0, condN (by omega)])
  (k := k) hl [] (by simp)
 have e2 : prop_apart_l0 k (PlanSet.mk (PlaceHall.mk v (usL v)) L M) l i j f k [] 0 = _ := e2
 rw [bindS e2, List.nil_append]
 congr 1
 have h2 : ((List.range l.length).map (fun j : Nat => aI l (j : Int))) = l := by rw [range_map_aI (l := l) (f := fun s => s), List.map_id']
 have h3 : ∀ (p : Int → Bool) (R : List Nat), (R.filter (fun j : Nat => p (aI l (j : Int)))).map (fun j : Nat => aI l (j : Int)) = (R.map (fun j : Nat => aI l (j : Int))).filter p := fun p R => by
  rw [List.filter_map]
  rfl
 rw [h3 (fun s => aptB v (aI L i) s (aI L j) f), h2]
/-- A range over the map that strikes out of one row, in every order. -/
theorem mrun_set {i : Nat} {w : List (List Int)} {good : Int × Int → Int → Bool} {step : Int × Int → List (List Int) → Option (Ex (List (List Int)) (List (List Int)))} {fin : List (List Int) → Option (List (List Int))} (hf : ∀ u, fin u = some u) {A0 : List Int} :
  ∀ (σ : List (Int × Int)) (A : List Int), (∀ s, s ∈ A → s ∈ A0) → A.length ≤ A0.length → (∀ p, p ∈ σ → ∀ B : List Int, (∀ s, s ∈ B → s ∈ A0) → B.length ≤ A0.length → step p (w.set i B) = some (.go (w.set i (B.filter (good p))))) → mrun step fin σ (w.set i A) = some (w.set i (A.filter fun s => σ.all fun p => good p s))
 | [], A, _, _, _ => by
  rw [mrun, hf]
  congr 2
  exact (List.filter_eq_self.2 fun _ _ => rfl).symm
 | p :: σ, A, hA, hl, h => by
  rw [mrun, h p (by simp) A hA hl]
  have hl2 := List.length_filter_le (good p) A
  have ih := mrun_set hf σ (A.filter (good p)) (fun s hs => hA s (List.mem_filter.1 hs).1) (by omega) (fun q hq => h q (by simp [hq]))
  show mrun step fin σ (w.set i (A.filter (good p))) = _
  rw [ih, List.filter_filter]
  congr 2
  refine List.filter_congr fun s _ => ?_
  rw [List.all_cons, Bool.and_comm]
theorem prop_New_l2_eq (hv : Small k v) (hk : 1000 < k) (hI : InOK v L P) (hL : L.length < k) {b : Bool} : prop_New_l2 k L (setOf v L P, b) k (List.replicate L.length []) 0 = some (lvl v L P []) := by
 have hb := hv.b
 have hM := hI.1
 have hN := hv.hs
 have hlen := hI.2.2.1
 have e := fill0 (f := fun n w i => prop_New_l2 k L (setOf v L P, b) n w i) (len := L.length) (domL v L P [])
  (fun n i w hi hw => by
   show prop_New_l2 k L (setOf v L P, b) (n + 1) w (i : Int) = prop_New_l2 k L (setOf v L P, b) n _ _
   have hmg : mget (setOf v L P).Pins (i : Int) = pinAt P (i : Int) := rfl
   have hdom : domL v L P [] i = openL v L P [] (i : Int) := by unfold domL; rw [if_neg (by simp)]
   rw [prop_New_l2]
   simp only
   rw [condD (by omega), hmg, wr_succ (by omega), hdom, Int.toNat_natCast]
   cases hp : pinAt P (i : Int) with
   | some f =>
    obtain ⟨j, hj, h1, h2⟩ := pinAt_some hp
    have hG := hI.2.1 j hj
    have hpl := hG.pl
    rw [h1, h2] at hpl
    have hmem : f ∈ openL v L P [] (i : Int) := (openL_mem hv).2 ⟨hpl, ⟨fun q hq => absurd hq (by simp), fun q hq hne => by
     rcases Nat.lt_trichotomy q j with x | x | x
     ·have := hG.ap q x
      rw [h1, h2] at this
      exact this
     ·subst x; exact absurd h1 hne
     ·have := (hI.2.1 q hq).ap j x
      rw [h1, h2, aptB_symm] at this
      exact this⟩, fun f' e => by rw [hp] at e; cases e; rfl⟩
    have hone : openL v L P [] (i : Int) = [f] := by
     have h := (openL_mem hv).1 hmem
     unfold openL
     rw [filter_one (allV_sorted _) (f := f) ((allV_mem hv).2 hpl) (fun s hs => (dB_iff.1 hs).2 f hp), if_pos (dB_T ⟨h.2.1, h.2.2⟩)]
    rw [Option.isSome_some, cond_true, bindS (idx_aI (l := w) (by omega) (by omega)), Option.getD_some, hone]
   | none =>
    have hall : place_Hall_All k (setOf v L P).H (aI L (i : Int)) = some (allV v (aI L (i : Int))) := by
     rw [show (setOf v L P).H = PlaceHall.mk v (usL v) from rfl, place_Hall_All_eq _ hv.hs hb hk]
     unfold allV
     rw [mayB_iff.2 hM]
     rfl
    have hal := allV_len v (aI L (i : Int))
    rw [Option.isSome_none, cond_false, bindS (idx_aI (l := L) (by omega) (by omega)), bindS hall, bindS (idx_aI (l := w) (by omega) (by omega))]
    have hst : ∀ p, p ∈ pmN P P.length → ∀ B : List Int, (∀ s, s ∈ B → s ∈ allV v (aI L (i : Int))) → B.length ≤ (allV v (aI L (i : Int))).length → prop_New_l3_st k (setOf v L P, b) (i : Int) p (w.set i B) = some (.go (w.set i (B.filter (fun s => aptB v (aI L (i : Int)) s (aI L p.1) p.2)))) := fun p hp' B hB hBl => by
     obtain ⟨j, hj, rfl⟩ := (pmN_mem hI.2.1.rise (Nat.le_refl _)).1 hp'
     have hG := hI.2.1 j hj
     have hg : idx (w.set i B) (i : Int) = some B := by
      rw [idx_aI (by omega) (by rw [List.length_set]; omega), aI_set (by omega), if_pos rfl]
     unfold prop_New_l3_st
     have ea : prop_apart k (setOf v L P) B (i : Int) (aI P (j : Int)).Party (aI P (j : Int)).First = _ := prop_apart_eq (M := pmN P P.length) hv hM hk ⟨by omega, by omega⟩ ⟨hG.lo, hG.hi⟩ (by omega) (fun s hs => (allV_mem hv).1 (hB s hs)) hG.pl
     simp only
     rw [bindS hg, bindS ea, bindS hg, Int.toNat_natCast, List.set_set]
    have hmr : prop_New_l3 k (setOf v L P, b) (i : Int) (setOf v L P).Pins (w.set i (allV v (aI L (i : Int)))) = some (w.set i (openL v L P [] (i : Int))) := by
     unfold prop_New_l3
     refine mrange_of fun τ hτ => ?_
     refine (mrun_set (step := fun p u => prop_New_l3_st k (setOf v L P, b) (i : Int) p u) (fin := fun u => prop_New_l3_fin k (setOf v L P, b) (i : Int) u) (fun u => rfl) τ (allV v (aI L (i : Int))) (fun s h => h) (Nat.le_refl _) (fun p hp' => hst p (hτ.mem_iff.1 hp'))).trans ?_
     congr 2
     unfold openL
     refine List.filter_congr fun s hs => ?_
     rw [Bool.eq_iff_iff, List.all_eq_true, dB_iff]
     constructor
     ·intro h
      refine ⟨⟨fun q hq => absurd hq (by simp), fun q hq hne => ?_⟩, fun f e => by rw [hp] at e; cases e⟩
      exact h ((aI P (q : Int)).Party, (aI P (q : Int)).First) (hτ.mem_iff.2 ((pmN_mem hI.2.1.rise (Nat.le_refl _)).2 ⟨q, hq, rfl⟩))
     ·intro h p hp'
      obtain ⟨j, hj, rfl⟩ := (pmN_mem hI.2.1.rise (Nat.le_refl _)).1 (hτ.mem_iff.1 hp')
      refine h.1.pins j hj fun e => ?_
      have := pinAt_get hI.2.1.rise hj
      rw [e, hp] at this
      cases this
    rw [bindS hmr])
  (fun n w hw => by show prop_New_l2 k L (setOf v L P, b) (n + 1) w _ = _; rw [prop_New_l2, condN (by omega)])
  (k := k) hL (List.replicate L.length []) (by simp)
 exact e
theorem prop_New_eq (hv : Small k v) (hk : 1000 < k) (hL : L.length < k) (hP : P.length < k) (ho : ∀ i : Nat, i < P.length → okI (aI P (i : Int)).First) : prop_New k v L P = some (if dB (InOK v L P) = true then (some (mkP v L P []), 0) else (none, 1)) := by
 have hb := hv.b
 obtain ⟨S, e, hS⟩ := plan_In_eq hv hk hL hP ho
 unfold prop_New
 rw [bindS e]
 rcases Classical.em (InOK v L P) with h | h
 ·have e2 := prop_New_l2_eq (b := true) hv hk h hL
  rw [dB_T h, cNT, hS h, gdD (by omega), Int.toNat_natCast, if_pos rfl]
  have e2 : prop_New_l2 k L (PlanSet.mk (PlaceHall.mk v (usL v)) L (pmN P P.length), true) k (List.replicate L.length []) 0 = _ := e2
  rw [bindS e2]
  rfl
 ·rw [dB_F h, cNF, if_neg (by simp)]
theorem prop_now_eq (hr : r.length ≤ 1000) : prop_Prop_now k (mkP v L P r) = some (lvl v L P r) := by
 unfold prop_Prop_now mkP
 simp only
 have hl : (lvsL v L P r).length = r.length + 1 := lvsL_len
 rw [hl, show wr (((r.length + 1 : Nat) : Int) - 1) = (r.length : Int) by rw [wr_id (by omega) (by omega)]; omega, bindS (idx_aI (by omega) (by omega)), lvsL_at (Nat.le_refl _), List.take_length]
theorem prop_has_eq (i : Int) : prop_Prop_has k (mkP v L P r) i = some (decide (0 ≤ i ∧ i < L.length)) := by
 unfold prop_Prop_has
 by_cases h : i < 0
 ·rw [condD h, decide_eq_false (by omega)]
 ·rw [condN h]
  congr 1
  rw [decide_eq_decide]
  show i < ((setOf v L P).L.length : Int) ↔ _
  have : (setOf v L P).L = L := rfl
  rw [this]
  omega
theorem prop_Depth_eq : prop_Prop_Depth k (mkP v L P r) = some (r.length : Int) := rfl
theorem prop_Pinned_eq {i : Nat} (h : i < L.length) : prop_Prop_Pinned k (mkP v L P r) (i : Int) = some ((pinAt P (i : Int)).isSome) := by
 unfold prop_Prop_Pinned
 rw [bindS (prop_has_eq _), decide_eq_true (by omega), cNT]
 rfl
/-- What planning on strikes out. -/
theorem domL_next (hv : Small k v) {x : Int} {j : Nat} (h : NextP v L P r x) (hj : r.length < j) : domL v L P (r ++ [x]) j = if x = -1 then domL v L P r j else (domL v L P r j).filter (fun s => aptB v (aI L (j : Int)) s (aI L (r.length : Int)) x) := by
 have hl : (r ++ [x]).length = r.length + 1 := by simp
 have d1 : domL v L P (r ++ [x]) j = openL v L P (r ++ [x]) (j : Int) := by unfold domL; rw [if_neg (by omega)]
 have d2 : domL v L P r j = openL v L P r (j : Int) := by unfold domL; rw [if_neg (by omega)]
 rw [d1, d2]
 have hfree : ∀ s, FreeP v L P (r ++ [x]) (j : Int) s ↔ FreeP v L P r (j : Int) s ∧ (¬ x = -1 → aptB v (aI L (j : Int)) s (aI L (r.length : Int)) x = true) := fun s => by
  constructor
  ·intro hf
   refine ⟨⟨fun q hq hn => ?_, hf.pins⟩, fun hn => ?_⟩
   ·have := hf.plan q (by omega)
    rw [aI_lt hq] at this
    exact this hn
   ·have := hf.plan r.length (by omega)
    rw [aI_last rfl] at this
    exact this hn
  ·rintro ⟨a, b⟩
   refine ⟨fun q hq hn => ?_, a.pins⟩
   by_cases hqr : q < r.length
   ·rw [aI_lt hqr] at hn ⊢
    exact a.plan q hqr hn
   ·obtain rfl : q = r.length := by omega
    rw [aI_last rfl] at hn ⊢
    exact b hn
 unfold openL
 split
 ·rename_i hx
  refine List.filter_congr fun s _ => ?_
  rw [Bool.eq_iff_iff, dB_iff, dB_iff, hfree s]
  exact ⟨fun a => ⟨a.1.1, a.2⟩, fun a => ⟨⟨a.1, fun hn => absurd hx hn⟩, a.2⟩⟩
 ·rename_i hx
  rw [List.filter_filter]
  refine List.filter_congr fun s _ => ?_
  rw [Bool.eq_iff_iff, Bool.and_eq_true, dB_iff, dB_iff, hfree s]
  exact ⟨fun a => ⟨a.1.2 hx, a.1.1, a.2⟩, fun a => ⟨⟨a.2.1, fun _ => a.1⟩, a.2.2⟩⟩
theorem NextP.state (hv : Small k v) {x : Int} (h : NextP v L P r x) : StateP v L P (r ++ [x]) := by
 have hl : (r ++ [x]).length = r.length + 1 := by simp
 refine ⟨h.1.inn, by have := h.2.1; omega, fun i hi => ?_⟩
 by_cases hir : i < r.length
 ·have hG := h.1.at_ i hir
  refine ⟨fun f hf => by rw [aI_lt hir]; exact hG.pin f hf, fun hn => ?_, fun hn j hj hnj => ?_⟩
  ·rw [aI_lt hir] at hn ⊢
   exact hG.pl hn
  ·rw [aI_lt hir] at hn ⊢
   rw [aI_lt (by omega)] at hnj ⊢
   exact hG.ap hn j hj hnj
 ·obtain rfl : i = r.length := by omega
  rcases h.2.2 with ⟨hx, hp⟩ | ho
  ·refine ⟨fun f hf => (by rw [hp] at hf; cases hf), fun hn => ?_, fun hn => ?_⟩
   ·rw [aI_last rfl] at hn; exact absurd hx hn
   ·rw [aI_last rfl] at hn; exact absurd hx hn
  ·obtain ⟨h1, h2, h3⟩ := (openL_mem hv).1 ho
   refine ⟨fun f hf => by rw [aI_last rfl]; exact h3 f hf, fun hn => ?_, fun hn j hj hnj => ?_⟩
   ·rw [aI_last rfl]; exact h1
   ·rw [aI_last rfl]
    rw [aI_lt hj] at hnj ⊢
    exact h2.plan j hj hnj
theorem domL_lt {x : Int} {i : Nat} (h : i < r.length) : domL v L P (r ++ [x]) i = domL v L P r i := by
 have hl : (r ++ [x]).length = r.length + 1 := by simp
 unfold domL
 rw [if_pos (by omega), if_pos h, aI_lt h]
theorem domL_last {x : Int} : domL v L P (r ++ [x]) r.length = if x = -1 then [] else [x] := by
 have hl : (r ++ [x]).length = r.length + 1 := by simp
 unfold domL
 rw [if_pos (by omega), aI_last rfl]
noncomputable def midL (v : Venue) (L : List Party) (P : List Pin) (r : List Int) (x : Int) (j : Nat) : List (List Int) := (List.range L.length).map (fun i => if i < j then domL v L P (r ++ [x]) i else domL v L P r i)
theorem midL_len {x : Int} {j : Nat} : (midL v L P r x j).length = L.length := by unfold midL; simp
theorem midL_at {x : Int} {j i : Nat} (h : i < L.length) : aI (midL v L P r x j) (i : Int) = if i < j then domL v L P (r ++ [x]) i else domL v L P r i := map_range_at h
theorem push_l0 (hv : Small k v) (hk : 1000 < k) {x : Int} (h : NextP v L P r x) (hx : ¬ x = -1) : ∀ (d n j : Nat), j + d = L.length → d < n → r.length < j → prop_Prop_Push_l0 k (mkP v L P r) x (r.length : Int) n (midL v L P r x j) (j : Int) = some (lvl v L P (r ++ [x]))
 | d, 0, j, _, hd, _ => absurd hd (by omega)
 | 0, n + 1, j, hj, _, _ => by
  have hml : (midL v L P r x j).length = L.length := midL_len
  rw [prop_Prop_Push_l0, condN (by omega)]
  congr 1
  refine aI_ext (by rw [midL_len, lvl_len]) fun i hi => ?_
  rw [midL_len] at hi
  rw [midL_at hi, lvl_at hi, if_pos (by omega)]
 | d + 1, n + 1, j, hj, hd, hr => by
  have hb := hv.b
  have hN := hv.hs
  have hst := h.1
  have hlen := hst.inn.2.2.1
  have hml : (midL v L P r x j).length = L.length := midL_len
  have hmj : aI (midL v L P r x j) (j : Int) = domL v L P r j := by rw [midL_at (by omega), if_neg (by omega)]
  have hdl := domL_len (v := v) (L := L) (P := P) (r := r) (i := j) hst.inn.1.n0
  have hxo : x ∈ openL v L P r (r.length : Int) := by
   rcases h.2.2 with y | y
   ·exact absurd y.1 hx
   ·exact y
  have hxpl := ((openL_mem hv).1 hxo).1
  have ea : prop_apart k (mkP v L P r).s (domL v L P r j) (j : Int) (r.length : Int) x = _ := prop_apart_eq (M := pmN P P.length) (L := L) hv hst.inn.1 hk ⟨by omega, by omega⟩ ⟨by omega, by omega⟩ (by omega) (fun s hs => domL_pl hv hst (by omega) hs) hxpl
  have hn := domL_next (j := j) hv h hr
  rw [if_neg hx] at hn
  rw [← hn] at ea
  rw [prop_Prop_Push_l0, condD (by omega), bindS (idx_aI (by omega) (by omega)), hmj, bindS ea, bindS (idx_aI (by omega) (by omega)), Int.toNat_natCast, wr_succ (by omega)]
  have e2 : (midL v L P r x j).set j (domL v L P (r ++ [x]) j) = midL v L P r x (j + 1) := by
   refine aI_ext (by rw [List.length_set, midL_len, midL_len]) fun i hi => ?_
   rw [List.length_set, midL_len] at hi
   rw [aI_set (by omega), midL_at hi, midL_at hi]
   by_cases hij : i = j
   ·subst hij
    rw [if_pos rfl, if_pos (by omega)]
   ·rw [if_neg hij]
    by_cases hlt : i < j
    ·rw [if_pos hlt, if_pos (by omega)]
    ·rw [if_neg hlt, if_neg (by omega)]
  rw [e2]
  exact push_l0 hv hk h hx d n (j + 1) (by omega) (by omega) (by omega)
theorem prop_Push_eq (hv : Small k v) (hk : 1000 < k) (hst : StateP v L P r) (x : Int) : prop_Prop_Push k (mkP v L P r) x = some (if dB (NextP v L P r x) = true then (true, lvsL v L P (r ++ [x]), r ++ [x]) else (false, lvsL v L P r, r)) := by
 have hb := hv.b
 have hM := hst.inn.1
 have hN := hv.hs
 have hlen := hst.inn.2.2.1
 have hrl := hst.len
 have hlv : (mkP v L P r).levels.length = r.length + 1 := lvsL_len
 unfold prop_Prop_Push
 rw [bindS prop_Depth_eq, bindS (prop_has_eq _)]
 by_cases hnn : ¬ r.length < L.length
 ·rw [decide_eq_false (by omega), cNF, bindS rfl, cond_true, dB_F (fun y => hnn y.2.1), if_neg (by simp)]
  rfl
 have hn := Classical.not_not.1 hnn
 have hlvn : (lvl v L P r).length = L.length := lvl_len
 have hdn : aI (lvl v L P r) (r.length : Int) = openL v L P r (r.length : Int) := by
  rw [lvl_at hn]
  unfold domL
  rw [if_neg (Nat.lt_irrefl _)]
 have hol := openL_len (v := v) (L := L) (P := P) (r := r) (i := (r.length : Int))
 rw [decide_eq_true ⟨by omega, by omega⟩, cNT, bindS (prop_Pinned_eq hn), bindS (prop_now_eq (by omega)), bindS (idx_aI (l := lvl v L P r) (by omega) (by omega)), hdn, bindS (slices_Contains_int_eq k _ x (by omega) (by omega))]
 have hcl : slices_Clone_Lint k (lvl v L P r) = some (lvl v L P r) := by
  unfold slices_Clone_Lint
  rw [gdD (by simp only [List.length_nil]; omega), List.nil_append]
 have hset : (lvl v L P r).set r.length [] = (lvl v L P r).set r.length [] := rfl
 by_cases h1 : x = -1
 ·rw [condD h1]
  cases hp : pinAt P (r.length : Int) with
  | some f =>
   rw [Option.isSome_some, cond_true, bindS rfl, cond_true, dB_F (fun y => by
    rcases y.2.2 with ⟨_, q⟩ | q
    ·rw [hp] at q; cases q
    ·have := openL_ge hv q; omega), if_neg (by simp)]
   rfl
  | none =>
   have hnx : NextP v L P r x := ⟨hst, hn, .inl ⟨h1, hp⟩⟩
   have e2 : (lvl v L P r).set r.length [] = lvl v L P (r ++ [x]) := by
    refine aI_ext (by rw [List.length_set, lvl_len, lvl_len]) fun i hi => ?_
    rw [List.length_set, lvl_len] at hi
    rw [aI_set (by omega), lvl_at hi, lvl_at hi]
    by_cases hij : i = r.length
    ·rw [if_pos hij, hij, domL_last, if_pos h1]
    ·rw [if_neg hij]
     by_cases hlt : i < r.length
     ·rw [domL_lt hlt]
     ·rw [domL_next hv hnx (by omega), if_pos h1]
   rw [Option.isSome_none, cond_false, condNT h1, bindS rfl, cond_false, bindS (prop_now_eq (by omega)), bindS hcl, bindS (idx_aI (l := lvl v L P r) (by omega) (by omega)), condNT h1, Int.toNat_natCast, e2, gdD (by simp only [List.length_singleton]; omega), gdD (by show r.length + _ ≤ _; simp only [List.length_singleton]; omega), dB_T hnx, if_pos rfl, lvsL_snoc]
   rfl
 ·rw [condN h1, condNF h1, bindS rfl]
  by_cases h2 : x ∈ openL v L P r (r.length : Int)
  ·have hnx : NextP v L P r x := ⟨hst, hn, .inr h2⟩
   have e2 : ((lvl v L P r).set r.length []).set r.length [x] = midL v L P r x (r.length + 1) := by
    rw [List.set_set]
    refine aI_ext (by rw [List.length_set, lvl_len, midL_len]) fun i hi => ?_
    rw [List.length_set, lvl_len] at hi
    rw [aI_set (by omega), lvl_at hi, midL_at hi]
    by_cases hij : i = r.length
    ·rw [if_pos hij, if_pos (by omega), hij, domL_last, if_neg h1]
    ·rw [if_neg hij]
     by_cases hlt : i < r.length
     ·rw [if_pos (by omega), domL_lt hlt]
     ·rw [if_neg (by omega)]
   have el := push_l0 hv hk hnx h1 (L.length - (r.length + 1)) k (r.length + 1) (by omega) (by omega) (by omega)
   rw [decide_eq_true h2, Bool.not_true, cond_false, bindS (prop_now_eq (by omega)), bindS hcl, bindS (idx_aI (l := lvl v L P r) (by omega) (by omega)), condNF h1, Int.toNat_natCast, bindS (idx_aI (l := (lvl v L P r).set r.length []) (by omega) (by rw [List.length_set]; omega)), e2, wr_succ (by omega), bindS el, gdD (by simp only [List.length_singleton]; omega), gdD (by show r.length + _ ≤ _; simp only [List.length_singleton]; omega), dB_T hnx, if_pos rfl, lvsL_snoc]
   rfl
  ·rw [decide_eq_false h2, Bool.not_false, cond_true, dB_F (fun y => by
    rcases y.2.2 with q | q
    ·exact h1 q.1
    ·exact h2 q), if_neg (by simp)]
   rfl
end
end Go.Px

set_option linter.unusedVariables false
set_option linter.unusedSimpArgs false
namespace Go.Px
open Go Go.Sh
theorem law14_told_eq : law14_told 20000 = some true := by decide +kernel
section
variable {k : Nat} {v : Venue} {L : List Party} {P : List Pin} {r : List Int}
theorem domL_pos {m : Nat} (hv : Small k v) (hst : StateP v L P r) : (0 < (domL v L P r m).length) ↔ ((m < r.length ∧ 0 ≤ aI r (m : Int)) ∨ (r.length ≤ m ∧ 0 < (openL v L P r (m : Int)).length)) := by
 unfold domL
 by_cases h : m < r.length
 ·rw [if_pos h]
  by_cases h1 : aI r (m : Int) = -1
  ·rw [if_pos h1]
   constructor
   ·intro x; exact absurd x (by simp)
   ·rintro (x | x)
    ·omega
    ·omega
  ·rw [if_neg h1]
   have := hst.ge hv h h1
   exact ⟨fun _ => .inl ⟨h, this⟩, fun _ => by simp⟩
 ·rw [if_neg h]
  exact ⟨fun x => .inr ⟨by omega, x⟩, fun x => by rcases x with x | x; exact absurd x.1 h; exact x.2⟩
theorem prop_Most_l0_eq (hv : Small k v) (hst : StateP v L P r) : ∀ (d n i : Nat), i + d = L.length → d < n → prop_Prop_Most_l0 k (mkP v L P r) (lvl v L P r) n (mostN v L P r i) (i : Int) = some (mostN v L P r L.length)
 | d, 0, i, _, h => absurd h (by omega)
 | 0, n + 1, i, hi, _ => by
  have hl : (lvl v L P r).length = L.length := lvl_len
  rw [prop_Prop_Most_l0, condN (by omega), show i = L.length by omega]
 | d + 1, n + 1, i, hi, hd => by
  have hl : (lvl v L P r).length = L.length := lvl_len
  have hA := hst.inn.2.2
  have h1 := hA.1
  have h2 := hA.2 i (by omega)
  have h3 := mostN_bd (v := v) (P := P) (r := r) hA (n := i) (by omega)
  have ih := prop_Most_l0_eq hv hst d n (i + 1) (by omega) (by omega)
  have hx : idx (mkP v L P r).s.L (i : Int) = some (aI L (i : Int)) := idx_aI (l := L) (by omega) (by omega)
  rw [mostN] at ih
  rw [prop_Prop_Most_l0, condD (by omega), bindS (idx_aI (by omega) (by omega)), lvl_at (by omega), wr_succ (by omega)]
  by_cases h : 0 < (domL v L P r i).length
  ·rw [if_pos ((domL_pos hv hst).1 h)] at ih
   rw [condD (by omega), bindS hx, wr_id (by omega) (by omega), ih]
  ·rw [if_neg (fun x => h ((domL_pos hv hst).2 x)), Int.add_zero] at ih
   rw [condN (by omega), ih]
theorem prop_Most_eq (hv : Small k v) (hk : 1000 < k) (hst : StateP v L P r) : prop_Prop_Most k (mkP v L P r) = some (mostN v L P r L.length) := by
 have h1 := hst.inn.2.2.1
 have h2 := hst.len
 unfold prop_Prop_Most
 have e := prop_Most_l0_eq hv hst L.length k 0 (by omega) (by omega)
 have e : prop_Prop_Most_l0 k (mkP v L P r) (lvl v L P r) k 0 0 = _ := e
 rw [bindS (prop_now_eq (by omega)), bindS e]
/-- What was taken out. -/
noncomputable def trN (v : Venue) (L : List Party) (P : List Pin) (r : List Int) : Nat → Int
 | 0 => 0
 | n + 1 => trN v L P r n + if r.length ≤ n then ((domL v L P [] n).length : Int) - ((domL v L P r n).length : Int) else 0
theorem trN_bd (hM : MayV v) : ∀ n : Nat, -4096 * (n : Int) ≤ trN v L P r n ∧ trN v L P r n ≤ 4096 * (n : Int)
 | 0 => by rw [trN]; omega
 | n + 1 => by
  have := trN_bd hM n
  have := hM.n0
  have := hM.n1
  have a := domL_len (v := v) (L := L) (P := P) (r := []) (i := n) hM.n0
  have b := domL_len (v := v) (L := L) (P := P) (r := r) (i := n) hM.n0
  rw [trN]
  split <;> omega
theorem trN_low : ∀ n : Nat, n ≤ r.length → trN v L P r n = 0
 | 0, _ => rfl
 | n + 1, h => by rw [trN, trN_low n (by omega), if_neg (by omega)]; rfl
theorem prop_Trail_l0_eq (hst : StateP v L P r) : ∀ (d n i : Nat), i + d = L.length → d < n → r.length ≤ i → prop_Prop_Trail_l0 k (mkP v L P r) n (trN v L P r i) (i : Int) = some (trN v L P r L.length)
 | d, 0, i, _, h, _ => absurd h (by omega)
 | 0, n + 1, i, hi, _, _ => by
  rw [prop_Prop_Trail_l0, condN (by show ¬ (i : Int) < (L.length : Int); omega), show i = L.length by omega]
 | d + 1, n + 1, i, hi, hd, hr => by
  have h1 := hst.inn.2.2.1
  have h2 := hst.len
  have hM := hst.inn.1
  have hn1 := hM.n1
  have hl0 : (lvl v L P []).length = L.length := lvl_len
  have hl : (lvl v L P r).length = L.length := lvl_len
  have hlv : (mkP v L P r).levels.length = r.length + 1 := lvsL_len
  have hz : aI (mkP v L P r).levels ((0 : Nat) : Int) = lvl v L P [] := lvsL_at (r := r) (m := 0) (by omega)
  have hb := trN_bd (L := L) (P := P) (r := r) hM i
  have a := domL_len (v := v) (L := L) (P := P) (r := []) (i := i) hM.n0
  have b := domL_len (v := v) (L := L) (P := P) (r := r) (i := i) hM.n0
  have ih := prop_Trail_l0_eq hst d n (i + 1) (by omega) (by omega) (by omega)
  rw [trN, if_pos hr] at ih
  have hx0 : idx (mkP v L P r).levels 0 = some (lvl v L P []) := by rw [idx_aI (by omega) (by omega)]; exact congrArg some hz
  rw [prop_Prop_Trail_l0, condD (by show (i : Int) < (L.length : Int); omega), bindS hx0, bindS (idx_aI (by omega) (by omega)), bindS (prop_now_eq (by omega)), bindS (idx_aI (by omega) (by omega)), lvl_at (by omega), lvl_at (by omega), wr_succ (by omega), wr_id (x := ((domL v L P [] i).length : Int) - ((domL v L P r i).length : Int)) (by omega) (by omega), wr_id (x := trN v L P r i + _) (by omega) (by omega), ih]
theorem prop_Trail_eq (hk : 1000 < k) (hst : StateP v L P r) : prop_Prop_Trail k (mkP v L P r) = some (trN v L P r L.length) := by
 have h1 := hst.inn.2.2.1
 have h2 := hst.len
 unfold prop_Prop_Trail
 have e := prop_Trail_l0_eq (k := k) hst (L.length - r.length) k r.length (by omega) (by omega) (Nat.le_refl _)
 rw [trN_low r.length (Nat.le_refl _)] at e
 rw [bindS prop_Depth_eq, bindS e]
theorem prop_Domain_eq (hst : StateP v L P r) (i : Int) : prop_Prop_Domain k (mkP v L P r) i = some (if 0 ≤ i ∧ i < L.length then domL v L P r i.toNat else []) := by
 have h1 := hst.inn.2.2.1
 have h2 := hst.len
 have hM := hst.inn.1
 have hn1 := hM.n1
 unfold prop_Prop_Domain
 rw [bindS (prop_has_eq _)]
 by_cases h : 0 ≤ i ∧ i < L.length
 ·have hl : (lvl v L P r).length = L.length := lvl_len
  have b := domL_len (v := v) (L := L) (P := P) (r := r) (i := i.toNat) hM.n0
  have hat : aI (lvl v L P r) i = domL v L P r i.toNat := by
   have := lvl_at (v := v) (L := L) (P := P) (r := r) (i := i.toNat) (by omega)
   rw [show ((i.toNat : Nat) : Int) = i by omega] at this
   exact this
  rw [decide_eq_true h, cNT, bindS (prop_now_eq (by omega)), bindS (idx_aI (by omega) (by omega)), hat, if_pos h]
  unfold slices_Clone_int
  rw [gdD (by simp only [List.length_nil]; omega), List.nil_append]
  rfl
 ·rw [decide_eq_false h, cNF, if_neg h]
  rfl
theorem prop_Plan_eq (hr : r.length ≤ 1000) : prop_Prop_Plan k (mkP v L P r) = some r := by
 unfold prop_Prop_Plan slices_Clone_Plan_int
 have : (mkP v L P r).p = r := rfl
 rw [this, gdD (by simp only [List.length_nil]; omega), List.nil_append]
 rfl
theorem lvsL_take {n : Nat} (h : n < r.length) : (lvsL v L P r).take (n + 1) = lvsL v L P (r.take n) := by
 have hl : (r.take n).length = n := by rw [List.length_take]; omega
 unfold lvsL
 rw [← List.map_take, hl, List.take_range, Nat.min_eq_left (by omega)]
 refine List.map_congr_left fun m hm => ?_
 have := List.mem_range.1 hm
 rw [List.take_take, Nat.min_eq_left (by omega)]
theorem prop_Pop_eq (hr : r.length ≤ 1000) : prop_Prop_Pop k (mkP v L P r) = some (if r.length = 0 then (false, lvsL v L P r, r) else (true, lvsL v L P (r.take (r.length - 1)), r.take (r.length - 1))) := by
 have hlv : (mkP v L P r).levels.length = r.length + 1 := lvsL_len
 have hp : (mkP v L P r).p = r := rfl
 unfold prop_Prop_Pop
 rw [bindS prop_Depth_eq]
 by_cases h : r.length = 0
 ·rw [condD (by omega), if_pos h]; rfl
 ·have e1 : wr (((r.length + 1 : Nat) : Int) - 1) = (r.length : Int) := by rw [wr_id (by omega) (by omega)]; omega
  have e2 : wr ((r.length : Int) - 1) = ((r.length - 1 : Nat) : Int) := by rw [wr_id (by omega) (by omega)]; omega
  rw [condN (by omega), hlv, hp, e1, e2, gdD (by omega), gdD (by omega), if_neg h, Int.toNat_natCast, Int.toNat_natCast]
  have := lvsL_take (v := v) (L := L) (P := P) (r := r) (n := r.length - 1) (by omega)
  rw [show r.length - 1 + 1 = r.length by omega] at this
  rw [← this]
  rfl
theorem StateP.take (h : StateP v L P r) (n : Nat) : StateP v L P (r.take n) := by
 have hl := h.len
 refine ⟨h.inn, by rw [List.length_take]; omega, fun i hi => ?_⟩
 rw [List.length_take] at hi
 have hG := h.at_ i (by omega)
 refine ⟨fun f hf => by rw [aI_take (by omega) (by omega)]; exact hG.pin f hf, fun hn => ?_, fun hn j hj hnj => ?_⟩
 ·rw [aI_take (by omega) (by omega)] at hn ⊢
  exact hG.pl hn
 ·rw [aI_take (by omega) (by omega)] at hn hnj ⊢
  rw [aI_take (by omega) (by omega)]
  exact hG.ap hn j hj hnj
theorem StateP_nil (hI : InOK v L P) : StateP v L P [] := ⟨hI, by simp, fun i hi => absurd hi (by simp)⟩
end
end Go.Px

set_option linter.unusedVariables false
set_option linter.unusedSimpArgs false
namespace Go.Px
open Go Go.Sh
section
variable {k : Nat} {v : Venue} {L : List Party} {P : List Pin} {r : List Int}
/- step by step -/
noncomputable def domI (v : Venue) (L : List Party) (P : List Pin) (r : List Int) (i : Int) : List Int := if 0 ≤ i ∧ i < L.length then domL v L P r i.toNat else []
theorem law14_domain_eq (hv : Small k v) (hk : 1000 < k) (hP : P.length < k) (hst : StateP v L P r) (i : Int) : law14_domain k v L P r i = some (domI v L P r i) := by
 have h1 := hst.inn.2.2.1
 have h2 := hst.len
 have eO := ref6_OpenOf_eq (L := L) (P := P) (r := r) hv hk (by omega) hP (by omega) i
 unfold law14_domain domI
 by_cases h0 : 0 ≤ i
 ·rw [condD h0]
  by_cases h3 : i < (r.length : Int)
  ·have hd : domL v L P r i.toNat = if aI r i = -1 then [] else [aI r i] := by
    unfold domL
    rw [if_pos (by omega), show ((i.toNat : Nat) : Int) = i by omega]
   rw [condD h3, bindS (idx_aI h0 h3), if_pos ⟨h0, by omega⟩, hd]
   by_cases h5 : aI r i = -1
   ·rw [condD h5, if_pos h5]
   ·have hs : slc r i (wr (i + 1)) = some [aI r i] := by
     rw [wr_id (by omega) (by omega), slc_eq ⟨by omega, by omega, by omega⟩, show (i + 1).toNat - i.toNat = 1 by omega, drop_aI (l := r) (i := i.toNat) (by omega), show ((i.toNat : Nat) : Int) = i by omega]
     rfl
    rw [condN h5, if_neg h5, bindS hs]
  ·rw [condN h3, bindS eO]
   by_cases h6 : i < L.length
   ·rw [dB_T ⟨hst, by omega, h6⟩, if_pos rfl, if_pos ⟨h0, h6⟩]
    unfold domL
    rw [if_neg (by omega), show ((i.toNat : Nat) : Int) = i by omega]
   ·rw [dB_F (fun x => h6 x.2.2), if_neg (by simp), if_neg (fun x => h6 x.2)]
 ·rw [condN h0, bindS eO, dB_F (fun x => by omega), if_neg (by simp), if_neg (fun x => h0 x.1)]
theorem domI_len {i : Int} (hn : 1 ≤ v.Seats.length) : (domI v L P r i).length ≤ v.Seats.length := by
 unfold domI
 split
 ·exact domL_len hn
 ·simp
theorem plays_l3 (h : BCtx v L P) (hst : StateP v L P r) : ∀ (d n q : Nat), q + d = L.length + 2 → d < n → law14_PropPlays_l3 20000 (v, L) P (lvsL v L P r, r, r) (mkP v L P []) n (trN v L P r (min (q - 1) L.length)) ((q : Int) - 1) = some (.go (trN v L P r L.length))
 | d, 0, q, _, hd => absurd hd (by omega)
 | 0, n + 1, q, hq, _ => by
  rw [law14_PropPlays_l3]
  dsimp only
  rw [condN (by omega), show min (q - 1) L.length = L.length by omega]
 | d + 1, n + 1, q, hq, hd => by
  have hv := h.small
  have h4 := h.pr.l4
  have hP4 := h.l4
  have hn := h.pr.n1
  have hM := h.pr.may
  have hrl := hst.len
  have hst0 := StateP_nil hst.inn
  have eD : prop_Prop_Domain 20000 (PropProp.mk (mkP v L P []).s (lvsL v L P r) r) ((q : Int) - 1) = some (domI v L P r ((q : Int) - 1)) := prop_Domain_eq (k := 20000) (r := r) hst ((q : Int) - 1)
  have hdl := domI_len (v := v) (L := L) (P := P) (r := r) (i := (q : Int) - 1) hM.n0
  have ih := plays_l3 h hst d n (q + 1) (by omega) (by omega)
  rw [show q + 1 - 1 = q by omega] at ih
  have hb := trN_bd (L := L) (P := P) (r := r) hM (min (q - 1) L.length)
  rw [law14_PropPlays_l3]
  dsimp only
  rw [condD (by omega), bindS (law14_domain_eq hv (by omega) (by omega) hst _), bindS eD, bindS (sameInts_refl _ _ (by omega) (by omega)), cNT, wr_id (x := (q : Int) - 1 + 1) (by omega) (by omega), show (q : Int) - 1 + 1 = ((q + 1 : Nat) : Int) - 1 by omega]
  by_cases hr : (r.length : Int) ≤ (q : Int) - 1
  ·have eO := ref6_OpenOf_eq (k := 20000) (v := v) (L := L) (P := P) (r := []) hv (by omega) (by omega) (by omega) (by simp) ((q : Int) - 1)
   rw [condD hr, bindS eO]
   by_cases hqL : q ≤ L.length
   ·obtain ⟨j, rfl⟩ : ∃ j, q = j + 1 := ⟨q - 1, by omega⟩
    have ej : ((j + 1 : Nat) : Int) - 1 = (j : Int) := by omega
    have hdI : domI v L P r (j : Int) = domL v L P r j := by unfold domI; rw [if_pos ⟨by omega, by omega⟩, Int.toNat_natCast]
    have hd0 : openL v L P [] (j : Int) = domL v L P [] j := by unfold domL; rw [if_neg (by simp)]
    have a := domL_len (v := v) (L := L) (P := P) (r := []) (i := j) hM.n0
    have b := domL_len (v := v) (L := L) (P := P) (r := r) (i := j) hM.n0
    rw [show min (j + 1 - 1) L.length = j by omega] at hb ⊢
    rw [show min (j + 1) L.length = j + 1 by omega, trN, if_pos (by omega)] at ih
    rw [ej, hdI, dB_T ⟨hst0, by simp, by omega⟩, if_pos rfl, hd0, wr_id (x := trN v L P r j + _) (by omega) (by omega), wr_id (by omega) (by omega), show trN v L P r j + ((domL v L P [] j).length : Int) - ((domL v L P r j).length : Int) = trN v L P r j + (((domL v L P [] j).length : Int) - ((domL v L P r j).length : Int)) by omega]
    exact ih
   ·have hdI : domI v L P r ((q : Int) - 1) = [] := by unfold domI; rw [if_neg (by omega)]
    rw [show min (q - 1) L.length = L.length by omega] at hb ⊢
    rw [show min q L.length = L.length by omega] at ih
    rw [hdI, dB_F (fun x => by omega), if_neg (by simp)]
    simp only [List.length_nil]
    rw [wr_id (x := trN v L P r L.length + ((0 : Nat) : Int)) (by omega) (by omega), wr_id (by omega) (by omega), show trN v L P r L.length + ((0 : Nat) : Int) - ((0 : Nat) : Int) = trN v L P r L.length by omega]
    exact ih
  ·rw [condN hr]
   have e1 : trN v L P r (min (q - 1) L.length) = 0 := trN_low _ (by omega)
   have e2 : trN v L P r (min q L.length) = 0 := trN_low _ (by omega)
   rw [e1]
   rw [e2] at ih
   exact ih
theorem plays_l2 (h : BCtx v L P) {a3 : List Law14Op} (hl : a3.length ≤ 25) : ∀ (d n i : Nat) (r : List Int), i + d = a3.length → d < n → StateP v L P r → law14_PropPlays_l2 20000 a3 (v, L) P (mkP v L P []) n (lvsL v L P r) r r (i : Int) = some (.go ())
 | d, 0, i, r, _, hd, _ => absurd hd (by omega)
 | 0, n + 1, i, r, hi, _, hst => by
  rw [law14_PropPlays_l2, condN (by omega)]
 | d + 1, n + 1, i, r, hi, hd, hst => by
  have hv := h.small
  have h4 := h.pr.l4
  have hP4 := h.l4
  have hn := h.pr.n1
  have hrl := hst.len
  have hw2 : IntKind.u64.wrap (wr ((v.Seats.length : Int) + 2)) = (v.Seats.length : Int) + 2 := by rw [wr_id (by omega) (by omega), wu_id (by omega) (by omega)]
  have hpush : ∀ x : Int, ∃ r2, (Option.bind (ref6_NextOf 20000 v L P r x) fun r305 => Option.bind (prop_Prop_Push 20000 (PropProp.mk (mkP v L P []).s (lvsL v L P r) r) x) fun r307 => cond (!(r307.1 == r305.2)) (some (Ex.rt false)) (cond r305.2 (some (Ex.go (r307.2.1, r307.2.2, r305.1))) (some (Ex.go (r307.2.1, r307.2.2, r))))) = some (.go (lvsL v L P r2, r2, r2) : Ex ((List (List (List Int))) × (List Int) × (List Int)) Bool) ∧ StateP v L P r2 := fun x => by
   have eP : prop_Prop_Push 20000 (PropProp.mk (mkP v L P []).s (lvsL v L P r) r) x = _ := prop_Push_eq (k := 20000) (r := r) hv (by omega) hst x
   rw [bindS (ref6_NextOf_eq hv (by omega) (by omega) (by omega) (by omega) x), bindS eP]
   rcases Classical.em (NextP v L P r x) with hx | hx
   ·rw [dB_T hx, if_pos rfl, if_pos rfl]
    exact ⟨r ++ [x], rfl, hx.state hv⟩
   ·rw [dB_F hx, if_neg (by simp), if_neg (by simp)]
    exact ⟨r, rfl, hst⟩
  have hstep : ∃ r2, (cond (decide ((IntKind.i64.wrap (((BitVec.ofInt IntKind.i64.bits (aI a3 (i : Int)).Kind &&& BitVec.ofInt IntKind.i64.bits 7).toNat : Nat) : Int)) < 6)) (Option.bind (idx a3 (i : Int)) fun y293 => gd (decide ((IntKind.u64.wrap (wr ((v.Seats.length : Int) + 2))) ≠ 0)) (Option.bind (cond (decide ((Int.tmod (i : Int) 5) = 4)) (Option.bind (idx a3 (i : Int)) fun y303 => some y303.First) (some (wr ((wr ((IntKind.u64.wrap y293.First).tmod (IntKind.u64.wrap (wr ((v.Seats.length : Int) + 2))))) - 1)))) fun o299 => Option.bind (ref6_NextOf 20000 v L P r o299) fun r305 => Option.bind (prop_Prop_Push 20000 (PropProp.mk (mkP v L P []).s (lvsL v L P r) r) o299) fun r307 => cond (!(r307.1 == r305.2)) (some (Ex.rt false)) (cond r305.2 (some (Ex.go (r307.2.1, r307.2.2, r305.1))) (some (Ex.go (r307.2.1, r307.2.2, r)))))) (Option.bind (prop_Prop_Pop 20000 (PropProp.mk (mkP v L P []).s (lvsL v L P r) r)) fun r313 => cond (!(r313.1 == (decide (0 < (r.length : Int))))) (some (Ex.rt false)) (Option.bind (slc r 0 (if 0 > (wr ((r.length : Int) - 1)) then 0 else (wr ((r.length : Int) - 1)))) fun y318 => some (Ex.go (r313.2.1, r313.2.2, y318))))) = some (.go (lvsL v L P r2, r2, r2) : Ex ((List (List (List Int))) × (List Int) × (List Int)) Bool) ∧ StateP v L P r2 := by
   cases decide ((IntKind.i64.wrap (((BitVec.ofInt IntKind.i64.bits (aI a3 (i : Int)).Kind &&& BitVec.ofInt IntKind.i64.bits 7).toNat : Nat) : Int)) < 6)
   ·have eP : prop_Prop_Pop 20000 (PropProp.mk (mkP v L P []).s (lvsL v L P r) r) = _ := prop_Pop_eq (k := 20000) (v := v) (L := L) (P := P) (r := r) (by omega)
    rw [cond_false, bindS eP]
    have e1 : wr ((r.length : Int) - 1) = (r.length : Int) - 1 := wr_id (by omega) (by omega)
    by_cases h0 : r.length = 0
    ·have hs : slc r 0 0 = some r := by
      rw [slc_eq ⟨by omega, by omega, by omega⟩]
      obtain rfl := List.length_eq_zero_iff.1 h0
      rfl
     rw [if_pos h0, decide_eq_false (by omega), e1, if_pos (by omega), bindS hs]
     exact ⟨r, rfl, hst⟩
    ·have hs : slc r 0 ((r.length : Int) - 1) = some (r.take (r.length - 1)) := by
      rw [slc_eq ⟨by omega, by omega, by omega⟩, show ((r.length : Int) - 1).toNat - (0 : Int).toNat = r.length - 1 by omega]
      rfl
     rw [if_neg h0, decide_eq_true (by omega), e1, if_neg (by omega), bindS hs]
     exact ⟨r.take (r.length - 1), rfl, hst.take _⟩
   ·rw [cond_true, bindS (idx_aI (by omega) (by omega)), gdD (by rw [hw2]; omega), bindS (idx_aI (by omega) (by omega))]
    by_cases h5 : Int.tmod (i : Int) 5 = 4
    ·rw [condD h5, bindS rfl]
     exact hpush _
    ·rw [condN h5, bindS rfl]
     exact hpush _
  obtain ⟨r2, e2, hst2⟩ := hstep
  have hl2 := hst2.len
  have e3 := plays_l3 h hst2 (L.length + 2) 20000 0 (by omega) (by omega)
  rw [show min (0 - 1) L.length = 0 by omega] at e3
  have e3 : law14_PropPlays_l3 20000 (v, L) P (lvsL v L P r2, r2, r2) (mkP v L P []) 20000 0 (-1) = _ := e3
  have eD : prop_Prop_Depth 20000 (PropProp.mk (mkP v L P []).s (lvsL v L P r2) r2) = some (r2.length : Int) := rfl
  have eM : prop_Prop_Most 20000 (PropProp.mk (mkP v L P []).s (lvsL v L P r2) r2) = _ := prop_Most_eq (k := 20000) (r := r2) hv (by omega) hst2
  have eT : prop_Prop_Trail 20000 (PropProp.mk (mkP v L P []).s (lvsL v L P r2) r2) = _ := prop_Trail_eq (k := 20000) (r := r2) (by omega) hst2
  have ePl : prop_Prop_Plan 20000 (PropProp.mk (mkP v L P []).s (lvsL v L P r2) r2) = _ := prop_Plan_eq (k := 20000) (v := v) (L := L) (P := P) (r := r2) (by omega)
  have eR := ref6_MostOf_eq (k := 20000) (v := v) (L := L) (P := P) (r := r2) hv (by omega) (by omega) (by omega) (by omega)
  rw [dB_T hst2, if_pos rfl] at eR
  rw [law14_PropPlays_l2, condD (by omega), bindS (idx_aI (by omega) (by omega))]
  dsimp only
  rw [bindS e2, elim_go, bindS e3, elim_go]
  dsimp only
  rw [bindS eD, condNT rfl, bindS ePl, bindS (sameInts_refl _ _ (by omega) (by omega)), cNT, bindS eM, bindS eR, condNT rfl, bindS eT, condNT rfl, wr_succ (by omega)]
  exact plays_l2 h hl d n (i + 1) r2 (by omega) (by omega) hst2
theorem PropPlays_true (a0 : List Int) (h0 : okLI a0) (a1 : List Int) (h1 : okLI a1) (a2 : Int) (h2 : okI a2) (a3 : List Law14Op) (h3 : okLLaw14Op a3) : ∃ k, law14_PropPlays k a0 a1 a2 a3 = some true := by
 refine ⟨20000, ?_⟩
 obtain ⟨v, L, e, hp⟩ := law12_Small_eq (k := 20000) a0 a1 (by omega)
 have hv := hp.small (k := 20000) (by omega) (by omega)
 obtain ⟨P, e3, hPl, hP⟩ := law12_Pins_eq hp (k := 20000) (by omega) (by omega) a2
 have hc : BCtx v L P := ⟨hp, hPl, hP⟩
 have h4 := hp.l4
 have hI := hp.inn hP
 have hst := StateP_nil hI
 have eN := prop_New_eq (k := 20000) (L := L) (P := P) hv (by omega) (by omega) (by omega) (pins_ok hv hP)
 rw [dB_T hI, if_pos rfl] at eN
 unfold law14_PropPlays
 rw [bindS e]
 dsimp only
 rw [bindS e3, bindS eN]
 dsimp only
 rw [optc_some, condNT rfl, bindS rfl]
 by_cases hl : (25 : Int) < (a3.length : Int)
 ·rw [condD hl, bindS law14_told_eq]
  rfl
 ·have el := plays_l2 hc (a3 := a3) (by omega) a3.length 20000 0 [] (by omega) (by omega) hst
  have el : law14_PropPlays_l2 20000 a3 (v, L) P (mkP v L P []) 20000 (mkP v L P []).levels (mkP v L P []).p [] 0 = _ := el
  rw [condN hl, bindS el, elim_go, bindS law14_told_eq]
end
end Go.Px
