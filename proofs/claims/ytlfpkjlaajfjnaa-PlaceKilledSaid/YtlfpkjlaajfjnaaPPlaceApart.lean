/- The laws PlaceApart and PlaceRadius over the plain functions. -/
import Derived.Test.YtlfpkjlaajfjnaaPKillMore
import Derived.Test.YtlfpkjlaajfjnaaPPlaceTop
set_option linter.unusedVariables false
set_option linter.unusedSimpArgs false
namespace Go.Px
open Go Go.Sh
theorem far_symm (a b : Seat) : far a b = far b a := by
  unfold far
  by_cases h : CoordP a.X ∧ CoordP a.Y ∧ CoordP b.X ∧ CoordP b.Y
  · rw [if_pos h, if_pos ⟨h.2.2.1, h.2.2.2, h.1, h.2.1⟩, show b.X - a.X = -(a.X - b.X) by omega, show b.Y - a.Y = -(a.Y - b.Y) by omega, Int.neg_mul_neg, Int.neg_mul_neg]
  · rw [if_neg h, if_neg (fun h' => h ⟨h'.2.2.1, h'.2.2.2, h'.1, h'.2.1⟩)]
theorem far_nonneg (a b : Seat) : 0 ≤ far a b := by
  unfold far
  split
  · rename_i h
    have h1 := sq_le (d := a.X - b.X) (by omega)
    have h2 := sq_le (d := a.Y - b.Y) (by omega)
    omega
  · omega
theorem closeB_symm (a b : Seat) (r : Int) : closeB a b r = closeB b a r := by unfold closeB; rw [far_symm]
theorem ApP_symm {v : Venue} {s : Int} {m : Nat} {t : Int} {n : Nat} (h : ApP v s m t n) : ApP v t n s m := fun y hy x hx => by
  obtain ⟨a, b⟩ := h x hx y hy
  exact ⟨fun e => a e.symm, by rw [closeB_symm]; exact b⟩
theorem apB_symm {v : Venue} {s : Int} {m : Nat} {t : Int} {n : Nat} : apB v s m t n = apB v t n s m := by
  rw [Bool.eq_iff_iff, apB_iff, apB_iff]
  exact ⟨ApP_symm, ApP_symm⟩
theorem aptB_symm {v : Venue} {p : Party} {s : Int} {q : Party} {t : Int} : aptB v p s q t = aptB v q t p s := by
  unfold aptB
  rw [apB_symm]
  cases plB v p s <;> cases plB v q t <;> rfl
theorem ref6_Clash_eq {k : Nat} {v : Venue} (hv : Small k v) (hM : MayV v) {x y : Int} (hx : 0 ≤ x ∧ x < v.Seats.length) (hy : 0 ≤ y ∧ y < v.Seats.length) (hxy : ¬ x = y) : ref6_Clash k v x y = some (closeB (seatA v x) (seatA v y) v.Radius) := by
  have hb := hv.b
  unfold ref6_Clash
  rw [bindS (ref2_May_eq k v hv.hs hv.hk hv.hp (by omega)), mayB_iff.2 hM, cond_true, bindS (ref6_clash_eq hM hx hy hxy)]
def GoodP (v : Venue) (s : Int) (x : Nat) (t : Int) (y : Nat) : Prop := ¬ s + (x : Int) = t + (y : Int) ∧ closeB (seatA v (s + x)) (seatA v (t + y)) v.Radius = false
theorem pa_l3 {v : Venue} (hv : Small 2000 v) (hM : MayV v) (s : Int) (m : Nat) (t : Int) (n : Nat) (hs : 0 ≤ s ∧ s + m ≤ v.Seats.length) (ht : 0 ≤ t ∧ t + n ≤ v.Seats.length) (x : Nat) (hx : x < m) : ∀ (d z y : Nat) (b : Bool), y + d = n → d < z →
    ∃ c, law11_PlaceApart_l3 2000 v (rangeL s m, true) (rangeL t n, true) (x : Int) z b (y : Int) = some c ∧ (c = true ↔ b = true ∧ ∀ y', y ≤ y' → y' < n → GoodP v s x t y')
  | d, 0, y, b, _, h => absurd h (by omega)
  | 0, z + 1, y, b, hy, _ => by
    rw [law11_PlaceApart_l3, condN (by show ¬ (y : Int) < ((rangeL t n).length : Int); rw [rangeL_len]; omega)]
    exact ⟨b, rfl, ⟨fun h => ⟨h, fun y' a1 a2 => by omega⟩, fun h => h.1⟩⟩
  | d + 1, z + 1, y, b, hy, h => by
    have hN := hv.hs
    have g1 : idx (rangeL s m) (x : Int) = some (s + x) := idx_get (by omega) (by rw [Int.toNat_natCast]; exact rangeL_get hx)
    have g2 : idx (rangeL t n) (y : Int) = some (t + y) := idx_get (by omega) (by rw [Int.toNat_natCast]; exact rangeL_get (by omega))
    rw [law11_PlaceApart_l3, condD (by show (y : Int) < ((rangeL t n).length : Int); rw [rangeL_len]; omega), wr_succ (by omega)]
    have hfalse : ∃ c, law11_PlaceApart_l3 2000 v (rangeL s m, true) (rangeL t n, true) (x : Int) z false ((y + 1 : Nat) : Int) = some c ∧ c = false := by
      obtain ⟨c, e, hc⟩ := pa_l3 hv hM s m t n hs ht x hx d z (y + 1) false (by omega) (by omega)
      refine ⟨c, e, ?_⟩
      cases c
      · rfl
      · have := (hc.1 rfl).1
        cases this
    cases b
    · obtain ⟨c, e, hc⟩ := hfalse
      rw [cond_false]
      exact ⟨c, e, by rw [hc]; simp⟩
    · rw [cond_true]
      show ∃ c, (Option.bind (idx (rangeL s m) (x : Int)) fun y165 => Option.bind (idx (rangeL t n) (y : Int)) fun y167 => cond (!decide (y165 = y167)) (Option.bind (idx (rangeL s m) (x : Int)) fun y170 => Option.bind (idx (rangeL t n) (y : Int)) fun y172 => Option.bind (ref6_Clash 2000 v y170 y172) fun r174 => law11_PlaceApart_l3 2000 v (rangeL s m, true) (rangeL t n, true) (x : Int) z (!r174) ((y + 1 : Nat) : Int)) (law11_PlaceApart_l3 2000 v (rangeL s m, true) (rangeL t n, true) (x : Int) z false ((y + 1 : Nat) : Int))) = some c ∧ _
      rw [bindS g1, bindS g2]
      by_cases h1 : s + (x : Int) = t + (y : Int)
      · rw [condNT h1]
        obtain ⟨c, e, hc⟩ := hfalse
        refine ⟨c, e, ?_⟩
        rw [hc]
        constructor
        · intro h; cases h
        · intro h; exact absurd h1 (h.2 y (by omega) (by omega)).1
      · rw [condNF h1, bindS g1, bindS g2, bindS (ref6_Clash_eq hv hM (by omega) (by omega) h1)]
        cases hc : closeB (seatA v (s + x)) (seatA v (t + y)) v.Radius
        · obtain ⟨c, e, h2⟩ := pa_l3 hv hM s m t n hs ht x hx d z (y + 1) true (by omega) (by omega)
          refine ⟨c, e, h2.trans ⟨fun h => ⟨rfl, fun y' a1 a2 => ?_⟩, fun h => ⟨rfl, fun y' a1 a2 => h.2 y' (by omega) a2⟩⟩⟩
          rcases Nat.lt_or_ge y y' with hl | hl
          · exact h.2 y' hl a2
          · obtain rfl : y' = y := by omega
            exact ⟨h1, hc⟩
        · obtain ⟨c, e, h2⟩ := hfalse
          refine ⟨c, e, ?_⟩
          rw [h2]
          constructor
          · intro h; cases h
          · intro h
            have := (h.2 y (by omega) (by omega)).2
            rw [hc] at this
            cases this
theorem pa_l2 {v : Venue} (hv : Small 2000 v) (hM : MayV v) (s : Int) (m : Nat) (t : Int) (n : Nat) (hs : 0 ≤ s ∧ s + m ≤ v.Seats.length) (ht : 0 ≤ t ∧ t + n ≤ v.Seats.length) : ∀ (d z x : Nat) (b : Bool), x + d = m → d < z →
    ∃ c, law11_PlaceApart_l2 2000 v (rangeL s m, true) (rangeL t n, true) z b (x : Int) = some c ∧ (c = true ↔ b = true ∧ ∀ x', x ≤ x' → x' < m → ∀ y', y' < n → GoodP v s x' t y')
  | d, 0, x, b, _, h => absurd h (by omega)
  | 0, z + 1, x, b, hy, _ => by
    rw [law11_PlaceApart_l2, condN (by show ¬ (x : Int) < ((rangeL s m).length : Int); rw [rangeL_len]; omega)]
    exact ⟨b, rfl, ⟨fun h => ⟨h, fun y' a1 a2 => by omega⟩, fun h => h.1⟩⟩
  | d + 1, z + 1, x, b, hy, h => by
    have hN := hv.hs
    obtain ⟨c1, e1, h1⟩ := pa_l3 hv hM s m t n hs ht x (by omega) n 2000 0 b (by omega) (by omega)
    have e1 : law11_PlaceApart_l3 2000 v (rangeL s m, true) (rangeL t n, true) (x : Int) 2000 b 0 = _ := e1
    obtain ⟨c, e, h2⟩ := pa_l2 hv hM s m t n hs ht d z (x + 1) c1 (by omega) (by omega)
    rw [law11_PlaceApart_l2, condD (by show (x : Int) < ((rangeL s m).length : Int); rw [rangeL_len]; omega), bindS e1, wr_succ (by omega)]
    refine ⟨c, e, h2.trans ⟨fun h => ⟨(h1.1 h.1).1, fun x' a1 a2 => ?_⟩, fun h => ⟨h1.2 ⟨h.1, fun y' _ a2 => h.2 x (by omega) (by omega) y' a2⟩, fun x' a1 a2 => h.2 x' (by omega) a2⟩⟩⟩
    rcases Nat.lt_or_ge x x' with hl | hl
    · exact h.2 x' hl a2
    · obtain rfl : x' = x := by omega
      exact fun y' a3 => (h1.1 h.1).2 y' (by omega) a3
theorem pa_false {v : Venue} (r9 : List Int × Bool) (h9 : r9.1 = []) (L : List Int × Bool) (hl : L.1.length ≤ 100) : ∀ (d z x : Nat), x + d = L.1.length → d < z → law11_PlaceApart_l2 2000 v L r9 z false (x : Int) = some false
  | d, 0, x, _, h => absurd h (by omega)
  | 0, z + 1, x, hx, _ => by rw [law11_PlaceApart_l2, condN (by omega)]
  | d + 1, z + 1, x, hx, h => by
    have e : law11_PlaceApart_l3 2000 v L r9 (x : Int) 2000 false 0 = some false := by rw [law11_PlaceApart_l3, condN (by rw [h9]; simp)]
    rw [law11_PlaceApart_l2, condD (by omega), bindS e, wr_succ (by omega)]
    exact pa_false r9 h9 L hl d z (x + 1) (by omega) (by omega)
theorem PlaceApart_true (a0 : List Int) (h0 : okLI a0) (a1 : Party) (h1 : okParty a1) (a2 : Party) (h2 : okParty a2) (a3 : Int) (h3 : okI a3) (a4 : Int) (h4 : okI a4) : ∃ k, law11_PlaceApart k a0 a1 a2 a3 a4 = some true := by
  refine ⟨2000, ?_⟩
  unfold law11_PlaceApart
  obtain ⟨v, e, hv⟩ := law3_Make_eq 2000 a0 25 (by omega) (by omega) (by omega)
  rw [bindS (show law3_Make 2000 a0 25 = some v from e)]
  have hn0 := hv.may.n0
  have hn1 := hv.n1
  have hS := made_small hv (by omega)
  have hM := hv.may
  have hw : IntKind.u64.wrap (v.Seats.length : Int) = (v.Seats.length : Int) := wu_id (by omega) (by omega)
  obtain ⟨s0, s1⟩ := um a3 (v.Seats.length : Int) (by omega)
  obtain ⟨t0, t1⟩ := um a4 (v.Seats.length : Int) (by omega)
  rw [hw, gdD (by omega), gdD (by omega), wr_id (x := (IntKind.u64.wrap a3).tmod (v.Seats.length : Int)) (by omega) (by omega), wr_id (x := (IntKind.u64.wrap a4).tmod (v.Seats.length : Int)) (by omega) (by omega)]
  generalize (IntKind.u64.wrap a3).tmod (v.Seats.length : Int) = s at *
  generalize (IntKind.u64.wrap a4).tmod (v.Seats.length : Int) = t at *
  rw [bindS (place_Seats_eq hS (by omega) a1 ⟨by omega, by omega⟩), bindS (place_Seats_eq hS (by omega) a2 ⟨by omega, by omega⟩)]
  have hfin : ∀ r7 r9 : List Int × Bool, law11_PlaceApart_l2 2000 v r7 r9 2000 (r7.2 && r9.2) 0 = some (aptB v a1 s a2 t) → (Option.bind (cond r7.2 (some r9.2) (some false)) fun o12 => Option.bind (law11_PlaceApart_l2 2000 v r7 r9 2000 o12 0) fun o112 => Option.bind (law11_told 2000 ) fun r176 => cond r176 (Option.bind (place_Apart 2000 v a1 s a2 t) fun r179 => cond (r179 == o112) (Option.bind (place_Apart 2000 v a2 t a1 s) fun r182 => some (r182 == o112)) (some false)) (some false)) = some true := fun r7 r9 hl => by
    have e : (cond r7.2 (some r9.2) (some false)) = some (r7.2 && r9.2) := by cases r7.2 <;> rfl
    rw [bindS e, bindS hl, bindS law11_told_eq, cond_true, bindS (place_Apart_eq hS (by omega) a1 ⟨by omega, by omega⟩ a2 ⟨by omega, by omega⟩), bindS (place_Apart_eq hS (by omega) a2 ⟨by omega, by omega⟩ a1 ⟨by omega, by omega⟩), aptB_symm (p := a2)]
    simp
  refine hfin _ _ ?_
  cases p1 : plB v a1 s
  · rw [if_neg (by simp)]
    have : aptB v a1 s a2 t = false := by unfold aptB; rw [p1]; rfl
    rw [this, law11_PlaceApart_l2, condN (by simp)]
    rfl
  rw [if_pos rfl]
  have q1 := p1
  unfold plB at q1
  rw [Bool.and_eq_true] at q1
  obtain ⟨b1, b2, b3, b4⟩ := placeB_pos (by omega) q1.2
  cases p2 : plB v a2 t
  · rw [if_neg (by simp)]
    have : aptB v a1 s a2 t = false := by unfold aptB; rw [p1, p2]; rfl
    rw [this]
    exact pa_false ([], false) rfl (rangeL s a1.Size.toNat, true) (by show (rangeL s a1.Size.toNat).length ≤ 100; rw [rangeL_len]; omega) (rangeL s a1.Size.toNat).length 2000 0 (by simp) (by rw [rangeL_len]; omega)
  rw [if_pos rfl]
  have q2 := p2
  unfold plB at q2
  rw [Bool.and_eq_true] at q2
  obtain ⟨c1, c2, c3, c4⟩ := placeB_pos (by omega) q2.2
  obtain ⟨c, e, hc⟩ := pa_l2 hS hM s a1.Size.toNat t a2.Size.toNat (by omega) (by omega) a1.Size.toNat 2000 0 true (by omega) (by omega)
  have e : law11_PlaceApart_l2 2000 v (rangeL s a1.Size.toNat, true) (rangeL t a2.Size.toNat, true) 2000 true 0 = _ := e
  show law11_PlaceApart_l2 2000 v (rangeL s a1.Size.toNat, true) (rangeL t a2.Size.toNat, true) 2000 true 0 = _
  rw [e]
  congr 1
  unfold aptB
  rw [p1, p2, Bool.true_and, Bool.true_and, Bool.eq_iff_iff, apB_iff, hc]
  exact ⟨fun h x hx y hy => h.2 x (by omega) hx y hy, fun h => ⟨rfl, fun x _ hx y hy => h x hx y hy⟩⟩
/- venues alike in all but kills, poles and radius -/
theorem runN_congr {v v' : Venue} {U U' : List Bool} {s : Int} (hN : v.Seats.length < 4294967290) (hl : v'.Seats.length = v.Seats.length) (h : ∀ i, onB v U s i = onB v' U' s i) : runN v U s = runN v' U' s := by
  have h1 := runN_pre (v := v) (U := U) (s := s) hN
  have h2 := runN_pre (v := v') (U := U') (s := s) (by omega)
  rw [hl] at h2
  exact h1.uniq ⟨h2.le, fun j hj => by rw [h]; exact h2.all j hj, fun hj => by rw [h]; exact h2.stop hj⟩
theorem kF_congr {v v' : Venue} {s : Int} {m : Nat} (h : ∀ j, kd v s m j = kd v' s m j) : ∀ (d j : Nat) (w c : Int), kF v s m d j w c = kF v' s m d j w c
  | 0, j, w, c => by rw [kF, kF]
  | d + 1, j, w, c => by
    rw [kF, kF, h, h, h, kF_congr h d, kF_congr h d, kF_congr h d]
theorem kindsB_congr {v v' : Venue} {s : Int} {m : Nat} {w : Int} (h : v'.Seats = v.Seats) : kindsB v s m w = kindsB v' s m w := by
  unfold kindsB
  rw [kF_congr (v' := v') fun j => by unfold kd seatA; rw [h]]
theorem onB_congr {v v' : Venue} {U : List Bool} {s : Int} {i : Nat} (h : v'.Seats = v.Seats) (hg : v'.Gap = v.Gap) : onB v U s i = onB v' U s i := by
  unfold onB freeB nextB seatA
  rw [h, hg]
theorem placeB_congr {v v' : Venue} {U : List Bool} {p : Party} {s : Int} (hN : v.Seats.length < 4294967290) (h : v'.Seats = v.Seats) (hg : v'.Gap = v.Gap) : placeB v U p s = placeB v' U p s := by
  unfold placeB
  rw [runN_congr (v' := v') (U' := U) hN (by rw [h]) (fun i => onB_congr h hg), kindsB_congr h]
theorem usL_congr {v : Venue} (r r' : Int) : usL (Venue.mk v.Seats v.Gap r v.Kills v.Poles) = usL (Venue.mk v.Seats v.Gap r' v.Kills v.Poles) := rfl
theorem plB_congr {v : Venue} {r r' : Int} {p : Party} {s : Int} (hN : v.Seats.length < 4294967290) (h1 : MayV (Venue.mk v.Seats v.Gap r v.Kills v.Poles)) (h2 : MayV (Venue.mk v.Seats v.Gap r' v.Kills v.Poles)) : plB (Venue.mk v.Seats v.Gap r v.Kills v.Poles) p s = plB (Venue.mk v.Seats v.Gap r' v.Kills v.Poles) p s := by
  unfold plB
  rw [mayB_iff.2 h1, mayB_iff.2 h2, Bool.true_and, Bool.true_and, usL_congr r r']
  exact placeB_congr (v := Venue.mk v.Seats v.Gap r v.Kills v.Poles) (v' := Venue.mk v.Seats v.Gap r' v.Kills v.Poles) hN rfl rfl
theorem PlaceRadius_true (a0 : List Int) (h0 : okLI a0) (a1 : Party) (h1 : okParty a1) (a2 : Party) (h2 : okParty a2) (a3 : Int) (h3 : okI a3) (a4 : Int) (h4 : okI a4) (a5 : Int) (h5 : okI a5) : ∃ k, law11_PlaceRadius k a0 a1 a2 a3 a4 a5 = some true := by
  refine ⟨2000, ?_⟩
  unfold law11_PlaceRadius
  obtain ⟨v, e, hv⟩ := law3_Make_eq 2000 a0 20 (by omega) (by omega) (by omega)
  rw [bindS (show law3_Make 2000 a0 20 = some v from e)]
  have hn0 := hv.may.n0
  have hn1 := hv.n1
  have hS := made_small hv (by omega)
  have hM := hv.may
  have hw : IntKind.u64.wrap (v.Seats.length : Int) = (v.Seats.length : Int) := wu_id (by omega) (by omega)
  obtain ⟨s0, s1⟩ := um a3 (v.Seats.length : Int) (by omega)
  obtain ⟨t0, t1⟩ := um a4 (v.Seats.length : Int) (by omega)
  obtain ⟨r0, r1⟩ := um a5 60 (by omega)
  rw [hw, gdD (by omega), gdD (by omega), wr_id (x := (IntKind.u64.wrap a3).tmod (v.Seats.length : Int)) (by omega) (by omega), wr_id (x := (IntKind.u64.wrap a4).tmod (v.Seats.length : Int)) (by omega) (by omega), wr_id (x := (IntKind.u64.wrap a5).tmod 60) (by omega) (by omega)]
  generalize (IntKind.u64.wrap a3).tmod (v.Seats.length : Int) = s at *
  generalize (IntKind.u64.wrap a4).tmod (v.Seats.length : Int) = t at *
  generalize (IntKind.u64.wrap a5).tmod 60 = R at *
  have hMr : ∀ r, InP r 0 1048576 → MayV (Venue.mk v.Seats v.Gap r v.Kills v.Poles) := fun r hr => ⟨hM.seats, hM.n0, hM.n1, hM.gap, hr, hM.kills, hM.k1, hM.poles, hM.p1⟩
  have hSr : ∀ r, Small 2000 (Venue.mk v.Seats v.Gap r v.Kills v.Poles) := fun r => ⟨hS.hs, hS.hk, hS.hp, hS.b, hS.b3⟩
  have hM0 := hMr 0 (by omega)
  have hMR := hMr R (by omega)
  rw [bindS (place_Apart_eq (hSr 0) (by omega) a1 ⟨by omega, by omega⟩ a2 ⟨by omega, by omega⟩), bindS (place_May_eq (hSr 0) (by omega) a1 ⟨by omega, by omega⟩), bindS (place_May_eq (hSr 0) (by omega) a2 ⟨by omega, by omega⟩)]
  have hap : ∀ m n : Nat, 1 ≤ m → 1 ≤ n → (ApP (Venue.mk v.Seats v.Gap 0 v.Kills v.Poles) s m t n ↔ (s + m ≤ t ∨ t + n ≤ s)) := fun m n hm hn => by
    constructor
    · intro h
      apply Classical.byContradiction
      intro hc
      rcases Int.lt_or_le s t with hl | hl
      · have := (h (t - s).toNat (by omega) 0 (by omega)).1
        omega
      · have := (h 0 (by omega) (s - t).toNat (by omega)).1
        omega
    · intro h x hx y hy
      refine ⟨by omega, ?_⟩
      have hf := far_nonneg (seatA (Venue.mk v.Seats v.Gap 0 v.Kills v.Poles) (s + x)) (seatA (Venue.mk v.Seats v.Gap 0 v.Kills v.Poles) (t + y))
      unfold closeB
      rw [decide_eq_false_iff_not]
      show ¬ far _ _ < wr (0 * 0)
      rw [show wr (0 * 0) = 0 by decide]
      omega
  have ho : (cond (plB (Venue.mk v.Seats v.Gap 0 v.Kills v.Poles) a1 s) (cond (plB (Venue.mk v.Seats v.Gap 0 v.Kills v.Poles) a2 t) (cond (decide ((wr (s + a1.Size)) ≤ t)) (some true) (some (decide ((wr (t + a2.Size)) ≤ s)))) (some false)) (some false)) = some (aptB (Venue.mk v.Seats v.Gap 0 v.Kills v.Poles) a1 s a2 t) := by
    unfold aptB
    cases p1 : plB (Venue.mk v.Seats v.Gap 0 v.Kills v.Poles) a1 s
    · rfl
    cases p2 : plB (Venue.mk v.Seats v.Gap 0 v.Kills v.Poles) a2 t
    · rfl
    unfold plB at p1 p2
    rw [Bool.and_eq_true] at p1 p2
    obtain ⟨b1, b2, b3, b4⟩ := placeB_pos (v := Venue.mk v.Seats v.Gap 0 v.Kills v.Poles) (by show v.Seats.length < _; omega) p1.2
    obtain ⟨c1, c2, c3, c4⟩ := placeB_pos (v := Venue.mk v.Seats v.Gap 0 v.Kills v.Poles) (by show v.Seats.length < _; omega) p2.2
    have hh := hap a1.Size.toNat a2.Size.toNat (by omega) (by omega)
    rw [cond_true, cond_true, Bool.true_and, Bool.true_and, wr_id (x := s + a1.Size) (by omega) (by omega), wr_id (x := t + a2.Size) (by omega) (by omega)]
    by_cases d1 : s + a1.Size ≤ t
    · rw [condD d1, apB_iff.2 (hh.2 (.inl (by omega)))]
    · rw [condN d1]
      congr 1
      rw [Bool.eq_iff_iff, decide_eq_true_iff, apB_iff, hh]
      omega
  rw [bindS ho, bindS law11_told_eq, cond_true, bindS (place_Apart_eq (hSr R) (by omega) a1 ⟨by omega, by omega⟩ a2 ⟨by omega, by omega⟩), condT (by simp)]
  cases hR : aptB (Venue.mk v.Seats v.Gap R v.Kills v.Poles) a1 s a2 t
  · rfl
  · rw [cNT]
    unfold aptB at hR ⊢
    rw [Bool.and_eq_true, Bool.and_eq_true] at hR
    obtain ⟨p1, p2, p3⟩ := hR
    have q1 := p1
    have q2 := p2
    rw [plB_congr (r' := 0) (by omega) hMR hM0] at p1 p2
    unfold plB at q1 q2
    rw [Bool.and_eq_true] at q1 q2
    obtain ⟨b1, b2, b3, b4⟩ := placeB_pos (v := Venue.mk v.Seats v.Gap R v.Kills v.Poles) (by show v.Seats.length < _; omega) q1.2
    obtain ⟨c1, c2, c3, c4⟩ := placeB_pos (v := Venue.mk v.Seats v.Gap R v.Kills v.Poles) (by show v.Seats.length < _; omega) q2.2
    rw [p1, p2, Bool.true_and, Bool.true_and, apB_iff.2]
    rw [hap _ _ (by omega) (by omega)]
    have h3 := apB_iff.1 p3
    apply Classical.byContradiction
    intro hc
    rcases Int.lt_or_le s t with hl | hl
    · have := (h3 (t - s).toNat (by omega) 0 (by omega)).1
      omega
    · have := (h3 0 (by omega) (s - t).toNat (by omega)).1
      omega
end Go.Px
