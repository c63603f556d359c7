/- The places' entries, and the law PlaceAsks. -/
import Derived.Test.YtlfpkjlaajfjnaaPPlace
set_option linter.unusedVariables false
set_option linter.unusedSimpArgs false
namespace Go.Px
open Go Go.Sh
theorem law11_told_eq : law11_told 2000 = some true := by decide +kernel
noncomputable def plB (v : Venue) (p : Party) (s : Int) : Bool := mayB v && placeB v (usL v) p s
theorem placeB_pos {v : Venue} {U : List Bool} {p : Party} {s : Int} (hN : v.Seats.length < 4294967290) (h : placeB v U p s = true) : MayP p ∧ 0 ≤ s ∧ s + p.Size ≤ v.Seats.length ∧ p.Size ≤ runN v U s := by
  unfold placeB at h
  rw [Bool.and_eq_true, decide_eq_true_iff] at h
  have := runN_pos (v := v) (U := U) (s := s) hN (by omega)
  exact ⟨h.1.1, this.1, by omega, h.1.2⟩
theorem place_In_eq {k : Nat} {v : Venue} (hv : Small k v) : place_In k v = some (PlaceHall.mk v (cond (mayB v) (usL v) []), mayB v) := by
  have hb := hv.b
  unfold place_In
  rw [bindS (kill_Usable_eq hv), bindS (venue_May_eq k v hv.hs hv.hk hv.hp (by omega))]
theorem place_Seats_eq {k : Nat} {v : Venue} (hv : Small k v) (hk : 1000 < k) (p : Party) {s : Int} (hs : okI s) : place_Seats k v p s = some (if plB v p s = true then (rangeL s p.Size.toNat, true) else ([], false)) := by
  unfold place_Seats plB
  rw [bindS (place_In_eq hv)]
  cases mayB v
  · rfl
  rw [cNT, bindS (place_Hall_Seats_eq p hs hv.hs hv.b hk)]
  rfl
theorem place_May_eq {k : Nat} {v : Venue} (hv : Small k v) (hk : 1000 < k) (p : Party) {s : Int} (hs : okI s) : place_May k v p s = some (plB v p s) := by
  unfold place_May
  rw [bindS (place_Seats_eq hv hk p hs)]
  cases plB v p s <;> rfl
theorem ref6_NewHall_eq {k : Nat} {v : Venue} (hv : Small k v) : ref6_NewHall k v = some (cond (mayB v) (some (Ref6Hall.mk v (usL v))) none) := by
  have hb := hv.b
  unfold ref6_NewHall
  rw [bindS (ref2_May_eq k v hv.hs hv.hk hv.hp (by omega)), bindS (ref6_Usable_eq hv)]
  cases mayB v <;> rfl
theorem ref6_MayPlace_eq {k : Nat} {v : Venue} (hv : Small k v) (hk : 1000 < k) (p : Party) (s : Int) : ref6_MayPlace k v p s = some (plB v p s) := by
  unfold ref6_MayPlace plB
  rw [bindS (ref6_NewHall_eq hv)]
  cases mayB v
  · rw [cond_false, optc_none]; rfl
  rw [cond_true, optc_some, bindS (ref6_Hall_May_eq p hv.hs hv.b hk)]
  rfl
noncomputable def allV (v : Venue) (p : Party) : List Int := cond (mayB v) (allL v (usL v) p) []
theorem allV_len (v : Venue) (p : Party) : (allV v p).length ≤ v.Seats.length := by
  unfold allV
  cases mayB v
  · simp
  · exact allL_len _ _ _
theorem place_All_eq {k : Nat} {v : Venue} (hv : Small k v) (hk : 1000 < k) (p : Party) : place_All k v p = some (allV v p) := by
  unfold place_All allV
  rw [bindS (place_In_eq hv)]
  cases mayB v
  · rfl
  rw [cNT, bindS (place_Hall_All_eq p hv.hs hv.b hk)]
  rfl
theorem ref6_AllPlaces_eq {k : Nat} {v : Venue} (hv : Small k v) (hk : 1000 < k) (p : Party) : ref6_AllPlaces k v p = some (allV v p) := by
  unfold ref6_AllPlaces allV
  rw [bindS (ref6_NewHall_eq hv)]
  cases mayB v
  · rw [cond_false, optc_none]; rfl
  rw [cond_true, optc_some, bindS (ref6_Hall_All_eq p hv.hs hv.b hk)]
  rfl
/-- Two parties, each at its place, apart. -/
noncomputable def aptB (v : Venue) (p : Party) (s : Int) (q : Party) (t : Int) : Bool := plB v p s && (plB v q t && apB v s p.Size.toNat t q.Size.toNat)
theorem place_Apart_eq {k : Nat} {v : Venue} (hv : Small k v) (hk : 1000 < k) (p : Party) {s : Int} (hs : okI s) (q : Party) {t : Int} (ht : okI t) : place_Apart k v p s q t = some (aptB v p s q t) := by
  have hN := hv.hs
  have hb := hv.b
  unfold place_Apart aptB plB
  rw [bindS (place_In_eq hv)]
  cases mayB v
  · rfl
  rw [cNT, bindS (place_Hall_Seats_eq p hs hv.hs hv.b hk), bindS (place_Hall_Seats_eq q ht hv.hs hv.b hk), Bool.true_and, Bool.true_and, cond_true]
  cases h1 : placeB v (usL v) p s
  · rw [if_neg (by simp)]; rfl
  rw [if_pos rfl, cond_true]
  cases h2 : placeB v (usL v) q t
  · rw [if_neg (by simp)]; rfl
  rw [if_pos rfl, cond_true]
  obtain ⟨a1, a2, a3, a4⟩ := placeB_pos (by omega) h1
  obtain ⟨b1, b2, b3, b4⟩ := placeB_pos (by omega) h2
  rw [bindS (place_Hall_Apart_eq (m := p.Size.toNat) (n := q.Size.toNat) (by omega) (by omega) (by show 0 ≤ s ∧ s + (p.Size.toNat : Int) ≤ (v.Seats.length : Int); omega) (by show 0 ≤ t ∧ t + (q.Size.toNat : Int) ≤ (v.Seats.length : Int); omega) hv.hs hv.b hk)]
  rfl
theorem ref6_Hall_Apart_eq {k : Nat} {v : Venue} (hv : Small k v) (hM : MayV v) (hk : 1000 < k) (p : Party) {s : Int} (q : Party) {t : Int} : ref6_Hall_Apart k (Ref6Hall.mk v (usL v)) p s q t = some (placeB v (usL v) p s && (placeB v (usL v) q t && apB v s p.Size.toNat t q.Size.toNat)) := by
  have hN := hv.hs
  have hb := hv.b
  unfold ref6_Hall_Apart
  rw [bindS (ref6_Hall_May_eq p hv.hs hv.b hk), bindS (ref6_Hall_May_eq q hv.hs hv.b hk)]
  simp only
  cases h1 : placeB v (usL v) p s
  · rfl
  rw [cNT, bindS rfl]
  cases h2 : placeB v (usL v) q t
  · rfl
  rw [cNT, Bool.true_and, Bool.true_and]
  obtain ⟨a1, a2, a3, a4⟩ := placeB_pos (by omega) h1
  obtain ⟨b1, b2, b3, b4⟩ := placeB_pos (by omega) h2
  obtain ⟨m, hp⟩ := Int.eq_ofNat_of_zero_le (by omega : 0 ≤ p.Size)
  obtain ⟨n, hq⟩ := Int.eq_ofNat_of_zero_le (by omega : 0 ≤ q.Size)
  have e := ap_gen (v := v) (s := s) (m := m) (t := t) (n := n) (f2 := fun a b => ref6_Hall_Apart_l2 k (Ref6Hall.mk v (usL v)) p s q t a b) (f3 := fun x a b => ref6_Hall_Apart_l3 k (Ref6Hall.mk v (usL v)) q t x a b) (k := k)
    (fun x z y hx hy => by
      show ref6_Hall_Apart_l3 k (Ref6Hall.mk v (usL v)) q t (s + x) (z + 1) (t + y) = if _ then ref6_Hall_Apart_l3 k (Ref6Hall.mk v (usL v)) q t (s + x) z _ else _
      rw [ref6_Hall_Apart_l3, hq, wr_id (x := t + (n : Int)) (by omega) (by omega), condD (by omega), wr_id (x := t + (y : Int) + 1) (by omega) (by omega), show t + (y : Int) + 1 = t + ((y + 1 : Nat) : Int) by omega]
      by_cases h1 : s + (x : Int) = t + (y : Int)
      · rw [condD h1, if_neg (fun h => h.1 h1)]
      · rw [condN h1, bindS (ref6_clash_eq (k := k) (v := v) hM (x := s + x) (y := t + y) (by omega) (by omega) h1)]
        cases hc : closeB (seatA v (s + x)) (seatA v (t + y)) v.Radius
        · rw [if_pos ⟨h1, rfl⟩]; rfl
        · rw [if_neg (fun h => by cases h.2)]; rfl)
    (fun x z hx => by
      show ref6_Hall_Apart_l3 k (Ref6Hall.mk v (usL v)) q t (s + x) (z + 1) (t + n) = _
      rw [ref6_Hall_Apart_l3, hq, wr_id (x := t + (n : Int)) (by omega) (by omega), condN (by omega)])
    (fun z x hx => by
      show ref6_Hall_Apart_l2 k (Ref6Hall.mk v (usL v)) p s q t (z + 1) (s + x) = _
      rw [ref6_Hall_Apart_l2, hp, wr_id (x := s + (m : Int)) (by omega) (by omega), condD (by omega), wr_id (x := s + (x : Int) + 1) (by omega) (by omega), show s + (x : Int) + 1 = s + ((x + 1 : Nat) : Int) by omega])
    (fun z => by
      show ref6_Hall_Apart_l2 k (Ref6Hall.mk v (usL v)) p s q t (z + 1) (s + m) = _
      rw [ref6_Hall_Apart_l2, hp, wr_id (x := s + (m : Int)) (by omega) (by omega), condN (by omega)])
    (by omega) (by omega)
  have e : ref6_Hall_Apart_l2 k (Ref6Hall.mk v (usL v)) p s q t k s = _ := e
  rw [bindS e, hp, hq, Int.toNat_natCast, Int.toNat_natCast]
  cases apB v s m t n
  · rw [if_neg (by simp), elim_rt]
  · rw [if_pos rfl, elim_go]
theorem ref6_Apart_eq {k : Nat} {v : Venue} (hv : Small k v) (hk : 1000 < k) (p : Party) {s : Int} (q : Party) {t : Int} : ref6_Apart k v p s q t = some (aptB v p s q t) := by
  unfold ref6_Apart aptB plB
  rw [bindS (ref6_NewHall_eq hv)]
  cases hm : mayB v
  · rw [cond_false, optc_none]; rfl
  rw [cond_true, optc_some, bindS (ref6_Hall_Apart_eq hv (mayB_iff.1 hm) hk p q), Bool.true_and, Bool.true_and]
theorem PlaceAsks_true (a0 : Venue) (h0 : okVenue a0) (a1 : Party) (h1 : okParty a1) (a2 : Party) (h2 : okParty a2) (a3 : Int) (h3 : okI a3) (a4 : Int) (h4 : okI a4) : ∃ k, law11_PlaceAsks k a0 a1 a2 a3 a4 = some true := by
  refine ⟨2000, ?_⟩
  unfold law11_PlaceAsks
  rw [bindS (law3_Few_eq _ _)]
  by_cases hf : a0.Seats.length ≤ 40 ∧ a0.Kills.length ≤ 40 ∧ a0.Poles.length ≤ 40
  · rw [condNT hf]
    have hv := small_few hf
    have hw : IntKind.u64.wrap (wr ((a0.Seats.length : Int) + 1)) = (a0.Seats.length : Int) + 1 := by rw [wr_id (by omega) (by omega), wu_id (by omega) (by omega)]
    have step : ∀ (n : Nat) (s t : Int) (q : Int), okI s → okI t → q < 2 → 0 ≤ q → law11_PlaceAsks_l2 2000 a0 a1 a2 (n + 1) s t q = law11_PlaceAsks_l2 2000 a0 a1 a2 n (wr ((IntKind.u64.wrap s).tmod (IntKind.u64.wrap (wr ((a0.Seats.length : Int) + 1))))) (wr ((IntKind.u64.wrap t).tmod (IntKind.u64.wrap (wr ((a0.Seats.length : Int) + 1))))) (wr (q + 1)) := fun n s t q hs ht hq hq0 => by
      have hal := allV_len a0 a1
      rw [law11_PlaceAsks_l2, condD hq, bindS (ref6_MayPlace_eq hv (by omega) a1 s), bindS (place_Seats_eq hv (by omega) a1 hs), bindS (place_May_eq hv (by omega) a1 hs), bindS (place_Apart_eq hv (by omega) a1 hs a2 ht), bindS (ref6_Apart_eq hv (by omega) a1 a2), bindS (place_All_eq hv (by omega) a1), bindS (ref6_AllPlaces_eq hv (by omega) a1), bindS (sameInts_refl _ _ (by omega) (by omega))]
      rw [gdD (by rw [hw]; omega), gdD (by rw [hw]; omega)]
      cases hp : plB a0 a1 s
      · rw [if_neg (by simp)]
        have e : law11_PlaceAsks_l3 2000 ([], false) s 2000 0 = some (.go ()) := by
          rw [law11_PlaceAsks_l3, condN (by simp)]
        simp only [Bool.not_true, Bool.not_false, BEq.rfl, cond_true, cond_false, List.length_nil, decide_true, Int.natCast_zero, beq_self_eq_true]
        rw [bindS rfl, cond_false, bindS e, elim_go]
      · rw [if_pos rfl]
        unfold plB at hp
        rw [Bool.and_eq_true] at hp
        obtain ⟨b1, b2, b3, b4⟩ := placeB_pos (by omega) hp.2
        obtain ⟨m, hm⟩ := Int.eq_ofNat_of_zero_le (by omega : 0 ≤ a1.Size)
        have hl : (rangeL s a1.Size.toNat).length = m := by rw [rangeL_len, hm, Int.toNat_natCast]
        have e : law11_PlaceAsks_l3 2000 (rangeL s a1.Size.toNat, true) s 2000 0 = some (.go ()) := by
          have h := scan_go (f := fun n i => law11_PlaceAsks_l3 2000 (rangeL s a1.Size.toNat, true) s n i) (len := m) (good := fun _ => True)
            (fun n i hi _ => by
              show law11_PlaceAsks_l3 2000 (rangeL s a1.Size.toNat, true) s (n + 1) (i : Int) = _
              have hg : idx (rangeL s a1.Size.toNat) (i : Int) = some (s + i) := idx_get (by omega) (by rw [Int.toNat_natCast]; exact rangeL_get (by omega))
              rw [law11_PlaceAsks_l3, condD (by show (i : Int) < ((rangeL s a1.Size.toNat).length : Int); omega), bindS hg, wr_id (x := s + (i : Int)) (by omega) (by omega), condNT rfl, wr_succ (by omega)])
            (fun n => by show law11_PlaceAsks_l3 2000 (rangeL s a1.Size.toNat, true) s (n + 1) _ = _; rw [law11_PlaceAsks_l3, condN (by show ¬ (m : Int) < ((rangeL s a1.Size.toNat).length : Int); omega)]) m 2000 0 (by omega) (by omega) (fun _ _ _ => trivial)
          exact h
        have hd : decide (((rangeL s a1.Size.toNat).length : Int) = a1.Size) = true := by rw [hl, hm, decide_eq_true rfl]
        simp only [Bool.not_true, Bool.not_false, BEq.rfl, cond_true, cond_false, beq_self_eq_true]
        rw [bindS rfl, cond_false, bindS e, elim_go, hd]
        rfl
    have u := um a3 ((a0.Seats.length : Int) + 1) (by omega)
    have u2 := um a4 ((a0.Seats.length : Int) + 1) (by omega)
    have e1 := step 1999 a3 a4 0 h3 h4 (by omega) (by omega)
    have e2 := step 1998 (wr ((IntKind.u64.wrap a3).tmod (IntKind.u64.wrap (wr ((a0.Seats.length : Int) + 1))))) (wr ((IntKind.u64.wrap a4).tmod (IntKind.u64.wrap (wr ((a0.Seats.length : Int) + 1))))) 1 (by rw [hw, wr_id (by omega) (by omega)]; exact ⟨by omega, by omega⟩) (by rw [hw, wr_id (by omega) (by omega)]; exact ⟨by omega, by omega⟩) (by omega) (by omega)
    rw [e1, show wr (0 + 1) = 1 by decide, e2, show wr (1 + 1) = 2 by decide, law11_PlaceAsks_l2, condN (by omega), bindS rfl, elim_go, bindS law11_told_eq]
  · rw [condNF hf, bindS law11_told_eq]
end Go.Px
