/- The places' entries, and the law PlaceAsks. -/
import Derived.Test.YtlfpkjlaajfjnaaPPlace
set_option linter.unusedVariables false
set_option linter.unusedSimpArgs false
namespace Go.Px
open Go Go.Sh
noncomputable def plB (v : Venue) (p : Party) (s : Int) : Bool := mayB v && placeB v (usL v) p s
theorem placeB_pos {v : Venue} {U : List Bool} {p : Party} {s : Int} (hN : v.Seats.length < 4294967290) (h : placeB v U p s = true) : MayP p ∧ 0 ≤ s ∧ s + p.Size ≤ v.Seats.length ∧ p.Size ≤ runN v U s := by
  unfold placeB at h
  rw [Bool.and_eq_true, decide_eq_true_iff] at h
  have := runN_pos (v := v) (U := U) (s := s) hN (by omega)
  exact ⟨h.1.1, this.1, by omega, h.1.2⟩
theorem place_In_eq {k : Nat} {v : Venue} (hv : Small k v) : place_In k v = some (PlaceHall.mk v (cond (mayB v) (usL v) []), mayB v) := by
  have hb := hv.b
  unfold place_In
  rw [bindS (kill_Usable_eq hv), bindS (venue_May_eq k v hv.hs hv.hk hv.hp (by omega))]
theorem ref6_NewHall_eq {k : Nat} {v : Venue} (hv : Small k v) : ref6_NewHall k v = some (cond (mayB v) (some (Ref6Hall.mk v (usL v))) none) := by
  have hb := hv.b
  unfold ref6_NewHall
  rw [bindS (ref2_May_eq k v hv.hs hv.hk hv.hp (by omega)), bindS (ref6_Usable_eq hv)]
  cases mayB v <;> rfl
noncomputable def allV (v : Venue) (p : Party) : List Int := cond (mayB v) (allL v (usL v) p) []
theorem allV_len (v : Venue) (p : Party) : (allV v p).length ≤ v.Seats.length := by
  unfold allV
  cases mayB v
  · simp
  · exact allL_len _ _ _
theorem ref6_AllPlaces_eq {k : Nat} {v : Venue} (hv : Small k v) (hk : 1000 < k) (p : Party) : ref6_AllPlaces k v p = some (allV v p) := by
  unfold ref6_AllPlaces allV
  rw [bindS (ref6_NewHall_eq hv)]
  cases mayB v
  · rw [cond_false, optc_none]; rfl
  rw [cond_true, optc_some, bindS (ref6_Hall_All_eq p hv.hs hv.b hk)]
  rfl
/-- Two parties, each at its place, apart. -/
noncomputable def aptB (v : Venue) (p : Party) (s : Int) (q : Party) (t : Int) : Bool := plB v p s && (plB v q t && apB v s p.Size.toNat t q.Size.toNat)
theorem ref6_Hall_Apart_eq {k : Nat} {v : Venue} (hv : Small k v) (hM : MayV v) (hk : 1000 < k) (p : Party) {s : Int} (q : Party) {t : Int} : ref6_Hall_Apart k (Ref6Hall.mk v (usL v)) p s q t = some (placeB v (usL v) p s && (placeB v (usL v) q t && apB v s p.Size.toNat t q.Size.toNat)) := by
  have hN := hv.hs
  have hb := hv.b
  unfold ref6_Hall_Apart
  rw [bindS (ref6_Hall_May_eq p hv.hs hv.b hk), bindS (ref6_Hall_May_eq q hv.hs hv.b hk)]
  simp only
  cases h1 : placeB v (usL v) p s
  · rfl
  rw [cNT, bindS rfl]
  cases h2 : placeB v (usL v) q t
  · rfl
  rw [cNT, Bool.true_and, Bool.true_and]
  obtain ⟨a1, a2, a3, a4⟩ := placeB_pos (by omega) h1
  obtain ⟨b1, b2, b3, b4⟩ := placeB_pos (by omega) h2
  obtain ⟨m, hp⟩ := Int.eq_ofNat_of_zero_le (by omega : 0 ≤ p.Size)
  obtain ⟨n, hq⟩ := Int.eq_ofNat_of_zero_le (by omega : 0 ≤ q.Size)
  have e := ap_gen (v := v) (s := s) (m := m) (t := t) (n := n) (f2 := fun a b => ref6_Hall_Apart_l2 k (Ref6Hall.mk v (usL v)) p s q t a b) (f3 := fun x a b => ref6_Hall_Apart_l3 k (Ref6Hall.mk v (usL v)) q t x a b) (k := k)
    (fun x z y hx hy => by
      show ref6_Hall_Apart_l3 k (Ref6Hall.mk v (usL v)) q t (s + x) (z + 1) (t + y) = if _ then ref6_Hall_Apart_l3 k (Ref6Hall.mk v (usL v)) q t (s + x) z _ else _
      rw [ref6_Hall_Apart_l3, hq, wr_id (x := t + (n : Int)) (by omega) (by omega), condD (by omega), wr_id (x := t + (y : Int) + 1) (by omega) (by omega), show t + (y : Int) + 1 = t + ((y + 1 : Nat) : Int) by omega]
      by_cases h1 : s + (x : Int) = t + (y : Int)
      · rw [condD h1, if_neg (fun h => h.1 h1)]
      · rw [condN h1, bindS (ref6_clash_eq (k := k) (v := v) hM (x := s + x) (y := t + y) (by omega) (by omega) h1)]
        cases hc : closeB (seatA v (s + x)) (seatA v (t + y)) v.Radius
        · rw [if_pos ⟨h1, rfl⟩]; rfl
        · rw [if_neg (fun h => by cases h.2)]; rfl)
    (fun x z hx => by
      show ref6_Hall_Apart_l3 k (Ref6Hall.mk v (usL v)) q t (s + x) (z + 1) (t + n) = _
      rw [ref6_Hall_Apart_l3, hq, wr_id (x := t + (n : Int)) (by omega) (by omega), condN (by omega)])
    (fun z x hx => by
      show ref6_Hall_Apart_l2 k (Ref6Hall.mk v (usL v)) p s q t (z + 1) (s + x) = _
      rw [ref6_Hall_Apart_l2, hp, wr_id (x := s + (m : Int)) (by omega) (by omega), condD (by omega), wr_id (x := s + (x : Int) + 1) (by omega) (by omega), show s + (x : Int) + 1 = s + ((x + 1 : Nat) : Int) by omega])
    (fun z => by
      show ref6_Hall_Apart_l2 k (Ref6Hall.mk v (usL v)) p s q t (z + 1) (s + m) = _
      rw [ref6_Hall_Apart_l2, hp, wr_id (x := s + (m : Int)) (by omega) (by omega), condN (by omega)])
    (by omega) (by omega)
  have e : ref6_Hall_Apart_l2 k (Ref6Hall.mk v (usL v)) p s q t k s = _ := e
  rw [bindS e, hp, hq, Int.toNat_natCast, Int.toNat_natCast]
  cases apB v s m t n
  · rw [if_neg (by simp), elim_rt]
  · rw [if_pos rfl, elim_go]
end Go.Px
