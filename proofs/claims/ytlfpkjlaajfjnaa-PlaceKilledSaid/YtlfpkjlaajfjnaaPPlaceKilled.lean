/- The law PlaceKilled over the plain functions. -/
import Derived.Test.YtlfpkjlaajfjnaaPPlaceApart
set_option linter.unusedVariables false
set_option linter.unusedSimpArgs false
namespace Go.Px
open Go Go.Sh
theorem rising_l3 (k : Nat) (a : List Int) (l : List Int) (i : Nat) (x : Int) (hx : a[i]? = some x) (hb : l.length ≤ 1000) : ∀ (n p : Nat), p ≤ l.length → p < n → (∀ j y, p ≤ j → l[j]? = some y → x < y) →
    ∃ q : Nat, ref6_Rising_l3 k a l (i : Int) n (p : Int) = some (q : Int) ∧ q ≤ l.length ∧ (∀ j y, q ≤ j → l[j]? = some y → x < y) ∧ (0 < q → ∃ y, l[q - 1]? = some y ∧ y ≤ x)
  | 0, p, _, h, _ => absurd h (by omega)
  | n + 1, p, hp, h, ha => by
    have hxi : idx a (i : Int) = some x := idx_get (by omega) (by rw [Int.toNat_natCast]; exact hx)
    rw [ref6_Rising_l3]
    by_cases h0 : 0 < p
    · obtain ⟨y, e1, e2⟩ := some_get (l := l) (i := p - 1) (by omega)
      rw [condD (by omega), wr_pred h0 (by omega), bindS e2, bindS hxi]
      by_cases hy : x < y
      · rw [condD hy]
        obtain ⟨q, f1, f2, f3, f4⟩ := rising_l3 k a l i x hx hb n (p - 1) (by omega) (by omega) (fun j z hj hz => by
          rcases Nat.lt_or_ge (p - 1) j with hl | hl
          · exact ha j z (by omega) hz
          · obtain rfl : j = p - 1 := by omega
            rw [e1] at hz
            cases hz
            exact hy)
        exact ⟨q, f1, f2, f3, f4⟩
      · rw [condN hy]
        exact ⟨p, rfl, hp, ha, fun _ => ⟨y, e1, by omega⟩⟩
    · rw [condN (by omega)]
      exact ⟨p, rfl, hp, ha, fun h => absurd h h0⟩
theorem rising_l2 (k : Nat) (a : List Int) (ha : a.length ≤ 1000) (hk : a.length < k) : ∀ (d n i : Nat) (l : List Int), i + d = a.length → d < n → l.Pairwise (· < ·) → l.length ≤ i →
    ∃ r, ref6_Rising_l2 k a n l (i : Int) = some r ∧ r.Pairwise (· < ·) ∧ r.length ≤ a.length ∧ ∀ z, z ∈ r ↔ z ∈ l ∨ z ∈ a.drop i
  | d, 0, i, l, _, h, _, _ => absurd h (by omega)
  | 0, n + 1, i, l, hi, _, hp, hl => by
    rw [ref6_Rising_l2, condN (by omega)]
    exact ⟨l, rfl, hp, by omega, fun z => by rw [List.drop_eq_nil_of_le (by omega)]; simp⟩
  | d + 1, n + 1, i, l, hi, h, hp, hl => by
    obtain ⟨x, e1, e2⟩ := some_get (l := a) (i := i) (by omega)
    obtain ⟨q, f1, f2, f3, f4⟩ := rising_l3 k a l i x e1 (by omega) k l.length (by omega) (by omega) (fun j y hj hy => by
      rw [List.getElem?_eq_none hj] at hy
      cases hy)
    have hd : a.drop i = x :: a.drop (i + 1) := by
      have hlt : i < a.length := by omega
      rw [List.drop_eq_getElem_cons hlt]
      rw [List.getElem?_eq_getElem hlt] at e1
      rw [Option.some.inj e1]
    rw [ref6_Rising_l2, condD (by omega), bindS f1, wr_succ (by omega), bindS e2, Int.toNat_natCast]
    have hins : (q = 0 ∨ ∃ y, l[q - 1]? = some y ∧ y < x) → ∃ r, (gd (decide ((0 : Int) ≤ (q : Int) ∧ (q : Int) ≤ (l.length : Int))) (gd (decide ((([] : List Int)).length + ((l).take q).length ≤ 4294967296)) (gd (decide ((([] : List Int) ++ ((l).take q)).length + ([x]).length ≤ 4294967296)) (gd (decide ((0 : Int) ≤ (q : Int) ∧ (q : Int) ≤ (l.length : Int) ∧ (l.length : Int) ≤ (l.length : Int))) (gd (decide (((([] : List Int) ++ ((l).take q)) ++ [x]).length + (((l).drop q).take ((l.length : Int).toNat - q)).length ≤ 4294967296)) (ref6_Rising_l2 k a n (((([] : List Int) ++ ((l).take q)) ++ [x]) ++ (((l).drop q).take ((l.length : Int).toNat - q))) ((i + 1 : Nat) : Int))))))) = some r ∧ r.Pairwise (· < ·) ∧ r.length ≤ a.length ∧ ∀ z, z ∈ r ↔ z ∈ l ∨ z ∈ a.drop i := fun hq => by
      have e : ((l).drop q).take ((l.length : Int).toNat - q) = l.drop q := List.take_of_length_le (by rw [List.length_drop]; omega)
      rw [e, gdD (by omega), gdD (by simp; omega), gdD (by simp; omega), gdD (by omega), gdD (by simp; omega), List.nil_append]
      have hsplit : l.take q ++ l.drop q = l := List.take_append_drop q l
      have hpw : (l.take q ++ l.drop q).Pairwise (· < ·) := by rw [hsplit]; exact hp
      rw [List.pairwise_append] at hpw
      have hlow : ∀ z, z ∈ l.take q → z < x := fun z hz => by
        rcases hq with rfl | ⟨y, hy, hyx⟩
        · simp at hz
        · obtain ⟨j, hj, ej⟩ := List.getElem_of_mem hz
          rw [List.getElem_take] at ej
          rw [List.length_take] at hj
          rcases Nat.lt_or_ge j (q - 1) with hl2 | hl2
          · have hq2 : q - 1 < l.length := by omega
            have := List.pairwise_iff_getElem.1 hp j (q - 1) (by omega) hq2 hl2
            rw [List.getElem?_eq_getElem hq2] at hy
            have hy := Option.some.inj hy
            omega
          · have hjq : j = q - 1 := by omega
            subst hjq
            rw [List.getElem?_eq_getElem (by omega)] at hy
            have hy := Option.some.inj hy
            omega
      have hhigh : ∀ z, z ∈ l.drop q → x < z := fun z hz => by
        obtain ⟨j, hj, ej⟩ := List.getElem_of_mem hz
        rw [List.getElem_drop] at ej
        rw [List.length_drop] at hj
        exact f3 (q + j) z (by omega) (by rw [List.getElem?_eq_getElem (by omega), ej])
      have hnew : ((l.take q ++ [x]) ++ l.drop q).Pairwise (· < ·) := by
        rw [List.pairwise_append, List.pairwise_append]
        refine ⟨⟨hpw.1, List.pairwise_singleton _ _, fun z hz w hw => ?_⟩, hpw.2.1, fun z hz w hw => ?_⟩
        · rw [List.mem_singleton] at hw
          subst hw
          exact hlow z hz
        · rcases List.mem_append.1 hz with hz | hz
          · have := hlow z hz
            have := hhigh w hw
            omega
          · rw [List.mem_singleton] at hz
            subst hz
            exact hhigh w hw
      obtain ⟨r, g1, g2, g3, g4⟩ := rising_l2 k a ha hk d n (i + 1) ((l.take q ++ [x]) ++ l.drop q) (by omega) (by omega) hnew (by simp; omega)
      refine ⟨r, g1, g2, g3, fun z => ?_⟩
      rw [g4, hd, List.mem_cons, List.mem_append, List.mem_append, List.mem_singleton]
      have hm : z ∈ l ↔ z ∈ l.take q ∨ z ∈ l.drop q := by rw [← List.mem_append, hsplit]
      rw [hm]
      constructor
      · rintro (((h | h) | h) | h)
        · exact .inl (.inl h)
        · exact .inr (.inl h)
        · exact .inl (.inr h)
        · exact .inr (.inr h)
      · rintro ((h | h) | (h | h))
        · exact .inl (.inl (.inl h))
        · exact .inl (.inr h)
        · exact .inl (.inl (.inr h))
        · exact .inr h
    by_cases h0 : 0 < q
    · obtain ⟨y, e3, e4⟩ := f4 h0
      have hy : idx l ((q - 1 : Nat) : Int) = some y := idx_get (by omega) (by rw [Int.toNat_natCast]; exact e3)
      rw [condD (by omega), wr_pred h0 (by omega), bindS hy, bindS e2]
      by_cases he : y = x
      · rw [condD he]
        obtain ⟨r, g1, g2, g3, g4⟩ := rising_l2 k a ha hk d n (i + 1) l (by omega) (by omega) hp (by omega)
        refine ⟨r, g1, g2, g3, fun z => ?_⟩
        rw [g4, hd, List.mem_cons]
        constructor
        · rintro (h | h)
          · exact .inl h
          · exact .inr (.inr h)
        · rintro (h | h | h)
          · exact .inl h
          · refine .inl ?_
            rw [h, ← he]
            exact List.mem_of_getElem? e3
          · exact .inr h
      · rw [condN he]
        exact hins (.inr ⟨y, e3, by omega⟩)
    · rw [condN (by omega)]
      exact hins (.inl (by omega))
theorem ref6_Rising_eq (k : Nat) (a : List Int) (ha : a.length ≤ 1000) (hk : a.length < k) : ∃ r, ref6_Rising k a = some r ∧ r.Pairwise (· < ·) ∧ r.length ≤ a.length ∧ ∀ z, z ∈ r ↔ z ∈ a := by
  unfold ref6_Rising
  obtain ⟨r, e, h1, h2, h3⟩ := rising_l2 k a ha hk a.length k 0 [] (by omega) hk List.Pairwise.nil (by simp)
  have e : ref6_Rising_l2 k a k [] 0 = _ := e
  exact ⟨r, by rw [bindS e], h1, h2, fun z => by rw [h3, List.drop_zero]; simp⟩
theorem killsP_of {r : List Int} {m : Int} (h : r.Pairwise (· < ·)) (hm : ∀ z, z ∈ r → 0 ≤ z ∧ z < m) : KillsP r m := fun j hj s hs => by
  have := hm s (List.mem_of_getElem? hs)
  refine ⟨this.1, this.2, fun h0 t ht => ?_⟩
  have := List.pairwise_iff_getElem.1 h (j - 1) j (by omega) hj (by omega)
  rw [List.getElem?_eq_getElem (by omega)] at ht
  rw [List.getElem?_eq_getElem hj] at hs
  have ht := Option.some.inj ht
  have hs := Option.some.inj hs
  omega
/-- Whether a place of q seats from x keeps clear of seat s. -/
def keepB (s q x : Int) : Bool := !decide (x ≤ s ∧ s < x + q)
theorem pk_l0 (k : Nat) (p : Party) (a2 : Int) (v : Venue) (s : Int) (hs0 : 0 ≤ s ∧ s ≤ 1000) (hs : wr ((IntKind.u64.wrap a2).tmod (IntKind.u64.wrap (v.Seats.length : Int))) = s) (L K : List Int) (hL : L.Pairwise (· < ·)) (hl : L.length ≤ 1000) (hx : ∀ x, x ∈ L → 0 ≤ x ∧ x ≤ 1000 ∧ 1 ≤ p.Size ∧ p.Size ≤ 8) :
    ∀ (d n j c : Nat), j + d = L.length → d < n → K.drop c = (L.drop j).filter (keepB s p.Size) → c ≤ j → law11_PlaceKilled_l0 k p a2 v L K n (c : Int) (j : Int) = some (.go ((max c K.length : Nat) : Int))
  | d, 0, j, c, _, h, _, _ => absurd h (by omega)
  | 0, n + 1, j, c, hj, _, hd, hc => by
    rw [show L.drop j = [] from List.drop_eq_nil_of_le (by omega), List.filter_nil, List.drop_eq_nil_iff] at hd
    rw [law11_PlaceKilled_l0, condN (by omega), show max c K.length = c by omega]
  | d + 1, n + 1, j, c, hj, h, hd, hc => by
    have hjl : j < L.length := by omega
    obtain ⟨x, e1, e2⟩ := some_get hjl
    obtain ⟨x0, x1, q0, q1⟩ := hx x (List.mem_of_getElem? e1)
    have hdj : L.drop j = x :: L.drop (j + 1) := by
      rw [List.drop_eq_getElem_cons hjl]
      rw [List.getElem?_eq_getElem hjl] at e1
      rw [Option.some.inj e1]
    have hgt : ∀ y, y ∈ L.drop (j + 1) → x < y := fun y hy => by
      have := List.Pairwise.drop (i := j) hL
      rw [hdj, List.pairwise_cons] at this
      exact this.1 y hy
    rw [hdj, List.filter_cons] at hd
    have ho : (cond (decide ((c : Int) < (K.length : Int))) (Option.bind (idx K (c : Int)) fun y91 => Option.bind (idx L (j : Int)) fun y93 => some (decide (y91 = y93))) (some false)) = some (keepB s p.Size x) := by
      cases hk : keepB s p.Size x
      · rw [hk, if_neg (by simp)] at hd
        by_cases hcl : c < K.length
        · obtain ⟨y, f1, f2⟩ := some_get hcl
          have hy : y ∈ L.drop (j + 1) := by
            have : y ∈ K.drop c := by rw [List.drop_eq_getElem_cons hcl]; rw [List.getElem?_eq_getElem hcl] at f1; rw [Option.some.inj f1]; exact List.mem_cons_self ..
            rw [hd] at this
            exact (List.mem_filter.1 this).1
          have := hgt y hy
          rw [condD (by omega), bindS f2, bindS e2, decide_eq_false (by omega)]
        · rw [condN (by omega)]
      · rw [hk, if_pos rfl] at hd
        have hcl : c < K.length := by
          rcases Nat.lt_or_ge c K.length with h | h
          · exact h
          · rw [List.drop_eq_nil_of_le h] at hd
            cases hd
        obtain ⟨y, f1, f2⟩ := some_get hcl
        have hy : y = x := by
          rw [List.drop_eq_getElem_cons hcl] at hd
          rw [List.getElem?_eq_getElem hcl] at f1
          rw [← Option.some.inj f1]
          exact (List.cons.inj hd).1
        rw [condD (by omega), bindS f2, bindS e2, decide_eq_true hy]
    rw [law11_PlaceKilled_l0, condD (by omega), bindS ho, hs, wr_succ (i := j) (by omega), wr_succ (i := c) (by omega)]
    cases hk : keepB s p.Size x
    · rw [hk, if_neg (by simp)] at hd
      unfold keepB at hk
      have hk : x ≤ s ∧ s < x + p.Size := by
        apply Classical.byContradiction
        intro hh
        rw [decide_eq_false hh] at hk
        cases hk
      rw [cond_false, bindS rfl, bindS e2, bindS e2, wr_id (x := x + p.Size) (by omega) (by omega), condD hk.1, decide_eq_true hk.2, condF (c := (false == true)) rfl]
      exact pk_l0 k p a2 v s hs0 hs L K hL hl hx d n (j + 1) c (by omega) (by omega) hd (by omega)
    · rw [hk, if_pos rfl] at hd
      have hcl : c < K.length := by
        rcases Nat.lt_or_ge c K.length with h | h
        · exact h
        · rw [List.drop_eq_nil_of_le h] at hd
          cases hd
      have hd2 : K.drop (c + 1) = (L.drop (j + 1)).filter (keepB s p.Size) := by
        rw [List.drop_eq_getElem_cons hcl] at hd
        exact (List.cons.inj hd).2
      have hrec := pk_l0 k p a2 v s hs0 hs L K hL hl hx d n (j + 1) (c + 1) (by omega) (by omega) hd2 (by omega)
      rw [show max (c + 1) K.length = max c K.length by omega] at hrec
      unfold keepB at hk
      have hk : ¬ (x ≤ s ∧ s < x + p.Size) := by
        intro hh
        rw [decide_eq_true hh] at hk
        cases hk
      rw [cond_true, bindS rfl, bindS e2, bindS e2, wr_id (x := x + p.Size) (by omega) (by omega)]
      by_cases hxs : x ≤ s
      · rw [condD hxs, decide_eq_false (by omega), condF (c := (true == false)) rfl]
        exact hrec
      · rw [condN hxs, condF (c := (true == false)) rfl]
        exact hrec
theorem allL_sorted (v : Venue) (U : List Bool) (p : Party) : (allL v U p).Pairwise (· < ·) := by
  unfold allL
  rw [List.pairwise_map]
  refine List.Pairwise.imp (fun h => ?_) (List.Pairwise.filter _ List.pairwise_lt_range)
  omega
theorem allL_low {v : Venue} {U : List Bool} {p : Party} (hN : v.Seats.length < 4294967290) {x : Int} (h : x ∈ allL v U p) : 0 ≤ x ∧ x < v.Seats.length ∧ MayP p := by
  unfold allL at h
  obtain ⟨j, hj, rfl⟩ := List.mem_map.1 h
  rw [List.mem_filter, List.mem_range] at hj
  exact ⟨by omega, by omega, (placeB_pos hN hj.2).1⟩
theorem PlaceKilled_true (a0 : List Int) (h0 : okLI a0) (a1 : Party) (h1 : okParty a1) (a2 : Int) (h2 : okI a2) : ∃ k, law11_PlaceKilled k a0 a1 a2 = some true := by
  refine ⟨2000, ?_⟩
  unfold law11_PlaceKilled
  obtain ⟨v, e, hv⟩ := law3_Make_eq 2000 a0 25 (by omega) (by omega) (by omega)
  rw [bindS (show law3_Make 2000 a0 25 = some v from e)]
  have hn0 := hv.may.n0
  have hn1 := hv.n1
  have hkl := hv.kl
  have hS := made_small hv (by omega)
  have hM := hv.may
  have hw : IntKind.u64.wrap (v.Seats.length : Int) = (v.Seats.length : Int) := wu_id (by omega) (by omega)
  obtain ⟨s0, s1⟩ := um a2 (v.Seats.length : Int) (by omega)
  have hsw : wr ((IntKind.u64.wrap a2).tmod (IntKind.u64.wrap (v.Seats.length : Int))) = (IntKind.u64.wrap a2).tmod (v.Seats.length : Int) := by rw [hw]; exact wr_id (by omega) (by omega)
  rw [hsw, gdD (by rw [hw]; omega), gdD (by simp; omega), gdD (by simp; omega), List.nil_append]
  generalize (IntKind.u64.wrap a2).tmod (v.Seats.length : Int) = s at *
  obtain ⟨r, er, hr1, hr2, hr3⟩ := ref6_Rising_eq 2000 (v.Kills ++ [s]) (by simp; omega) (by simp; omega)
  rw [List.length_append, List.length_singleton] at hr2
  have hkm : ∀ z, z ∈ v.Kills → 0 ≤ z ∧ z < v.Seats.length := fun z hz => by
    obtain ⟨j, hj, ej⟩ := List.getElem_of_mem hz
    have := hM.kills j hj z (by rw [List.getElem?_eq_getElem hj, ej])
    omega
  have hM2 : MayV (Venue.mk v.Seats v.Gap v.Radius r v.Poles) := ⟨hM.seats, hM.n0, hM.n1, hM.gap, hM.radius, killsP_of hr1 (fun z hz => by
    rw [hr3, List.mem_append, List.mem_singleton] at hz
    show 0 ≤ z ∧ z < (v.Seats.length : Int)
    rcases hz with hz | hz
    · exact hkm z hz
    · omega), by show r.length ≤ 200; omega, hM.poles, hM.p1⟩
  have hS2 : Small 2000 (Venue.mk v.Seats v.Gap v.Radius r v.Poles) := ⟨hS.hs, by show r.length < 2000; omega, hS.hp, hS.b, hS.b3⟩
  rw [bindS er, bindS (place_All_eq hS (by omega) a1), bindS (place_All_eq hS2 (by omega) a1)]
  have hN : v.Seats.length < 4294967290 := by omega
  have hdead : ∀ i, i < v.Seats.length → deadB (Venue.mk v.Seats v.Gap v.Radius r v.Poles) i = (deadB v i && !decide ((i : Int) = s)) := fun i hi => by
    rw [Bool.eq_iff_iff, Bool.and_eq_true, killL_nil, killL_nil]
    show (¬ (i : Int) ∈ r ∧ ∀ j, j < v.Poles.length → poleB v i j = false) ↔ _
    rw [hr3, List.mem_append, List.mem_singleton]
    constructor
    · rintro ⟨a, b⟩
      exact ⟨⟨fun h => a (.inl h), b⟩, by rw [decide_eq_false (fun h => a (.inr h))]; rfl⟩
    · rintro ⟨⟨a, b⟩, c⟩
      refine ⟨fun h => ?_, b⟩
      rcases h with h | h
      · exact a h
      · rw [decide_eq_true h] at c
        cases c
  have hfree : ∀ x, freeB (Venue.mk v.Seats v.Gap v.Radius r v.Poles) (usL (Venue.mk v.Seats v.Gap v.Radius r v.Poles)) x = (freeB v (usL v) x && !decide (x = s)) := fun x => by
    unfold freeB
    by_cases hx : 0 ≤ x ∧ x < (v.Seats.length : Int)
    · obtain ⟨i, rfl⟩ := Int.eq_ofNat_of_zero_le hx.1
      rw [decide_eq_true (p := 0 ≤ (i : Int) ∧ (i : Int) < (v.Seats.length : Int)) hx, Int.toNat_natCast, usL_get (v := v) (by omega), usL_get (v := Venue.mk v.Seats v.Gap v.Radius r v.Poles) (by show i < v.Seats.length; omega), hdead i (by omega), Bool.true_and, Bool.true_and]
      rfl
    · rw [decide_eq_false (p := 0 ≤ x ∧ x < (v.Seats.length : Int)) hx]
      rfl
  have hon : ∀ (x : Int) i, onB (Venue.mk v.Seats v.Gap v.Radius r v.Poles) (usL (Venue.mk v.Seats v.Gap v.Radius r v.Poles)) x i = (onB v (usL v) x i && !decide (x + i = s)) := fun x i => by
    unfold onB
    rw [hfree]
    show ((freeB v (usL v) (x + i) && !decide (x + i = s)) && (decide (i = 0) || nextB v (x + i - 1))) = _
    cases freeB v (usL v) (x + i) <;> cases decide (x + (i : Int) = s) <;> simp
  have hrun : ∀ x q : Int, 1 ≤ q → (q ≤ runN (Venue.mk v.Seats v.Gap v.Radius r v.Poles) (usL (Venue.mk v.Seats v.Gap v.Radius r v.Poles)) x ↔ q ≤ runN v (usL v) x ∧ ¬ (x ≤ s ∧ s < x + q)) := fun x q hq => by
    have p1 := runN_pre (v := v) (U := usL v) (s := x) hN
    have p2 := runN_pre (v := Venue.mk v.Seats v.Gap v.Radius r v.Poles) (U := usL (Venue.mk v.Seats v.Gap v.Radius r v.Poles)) (s := x) hN
    generalize runN (Venue.mk v.Seats v.Gap v.Radius r v.Poles) (usL (Venue.mk v.Seats v.Gap v.Radius r v.Poles)) x = b at *
    generalize runN v (usL v) x = a at *
    have hba : b ≤ a := by
      rcases Nat.lt_or_ge a b with hl | hl
      · have h1 := p2.all a hl
        have h3 : b ≤ v.Seats.length := p2.le
        have h2 := p1.stop (by omega)
        rw [hon, h2] at h1
        cases h1
      · exact hl
    constructor
    · intro h
      refine ⟨by omega, fun hc => ?_⟩
      have h1 := p2.all (s - x).toNat (by omega)
      rw [hon, decide_eq_true (by omega)] at h1
      simp at h1
    · rintro ⟨h, hc⟩
      apply Classical.byContradiction
      intro hlt
      have h1 := p1.all b (by omega)
      have h3 : a ≤ v.Seats.length := p1.le
      have h2 := p2.stop (by show b < v.Seats.length; omega)
      rw [hon, h1, Bool.true_and] at h2
      have h2 : x + (b : Int) = s := by
        apply Classical.byContradiction
        intro hh
        rw [decide_eq_false hh] at h2
        cases h2
      omega
  have hpl : ∀ x : Int, placeB (Venue.mk v.Seats v.Gap v.Radius r v.Poles) (usL (Venue.mk v.Seats v.Gap v.Radius r v.Poles)) a1 x = (keepB s a1.Size x && placeB v (usL v) a1 x) := fun x => by
    unfold placeB keepB
    rw [← kindsB_congr (v := v) (v' := Venue.mk v.Seats v.Gap v.Radius r v.Poles) rfl, ← Bool.and_assoc]
    congr 1
    by_cases hp : MayP a1
    · have := hrun x a1.Size hp.1
      rw [Bool.eq_iff_iff, Bool.and_eq_true, decide_eq_true_iff, Bool.not_eq_true', decide_eq_false_iff_not, decide_eq_true_iff, this]
      constructor
      · rintro ⟨_, a, b⟩; exact ⟨b, hp, a⟩
      · rintro ⟨b, _, a⟩; exact ⟨hp, a, b⟩
    · rw [decide_eq_false (p := MayP a1 ∧ a1.Size ≤ (runN (Venue.mk v.Seats v.Gap v.Radius r v.Poles) (usL (Venue.mk v.Seats v.Gap v.Radius r v.Poles)) x : Int)) (fun h => hp h.1), decide_eq_false (p := MayP a1 ∧ a1.Size ≤ (runN v (usL v) x : Int)) (fun h => hp h.1), Bool.and_false]
  have hall : allV (Venue.mk v.Seats v.Gap v.Radius r v.Poles) a1 = (allV v a1).filter (keepB s a1.Size) := by
    unfold allV allL
    rw [mayB_iff.2 hM, mayB_iff.2 hM2, cond_true, cond_true, List.filter_map, List.filter_filter]
    congr 1
    apply List.filter_congr
    intro i _
    exact hpl (i : Int)
  have hV : allV v a1 = allL v (usL v) a1 := by unfold allV; rw [mayB_iff.2 hM]; rfl
  rw [hall, hV]
  have hal := allL_len v (usL v) a1
  have hl0 := pk_l0 2000 a1 a2 v s (by omega) hsw (allL v (usL v) a1) ((allL v (usL v) a1).filter (keepB s a1.Size)) (allL_sorted _ _ _) (by omega) (fun x hx => by
    obtain ⟨b1, b2, b3⟩ := allL_low hN hx
    exact ⟨b1, by omega, b3.1, b3.2.1⟩) (allL v (usL v) a1).length 2000 0 0 (by omega) (by omega) (by rw [List.drop_zero, List.drop_zero]) (by omega)
  have hl0 : law11_PlaceKilled_l0 2000 a1 a2 v (allL v (usL v) a1) ((allL v (usL v) a1).filter (keepB s a1.Size)) 2000 0 0 = _ := hl0
  rw [bindS hl0, elim_go, bindS law11_told_eq, cond_true, decide_eq_true (by omega)]
end Go.Px
