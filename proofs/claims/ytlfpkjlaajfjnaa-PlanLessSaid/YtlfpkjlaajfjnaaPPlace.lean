/- What the places compute. -/
import Derived.Test.YtlfpkjlaajfjnaaPRuns
set_option linter.unusedVariables false
set_option linter.unusedSimpArgs false
namespace Go.Px
open Go Go.Sh
abbrev MayP (p : Party) : Prop := 1 ≤ p.Size ∧ p.Size ≤ 8 ∧ 0 ≤ p.Wheels ∧ p.Wheels ≤ 2 ∧ 2 * p.Wheels ≤ p.Size
theorem party_May_eq (k : Nat) (p : Party) : party_May k p = some (decide (MayP p)) := by
  unfold party_May
  by_cases h1 : p.Size < 1
  · rw [condD h1, decide_eq_false (by omega)]
  by_cases h2 : 8 < p.Size
  · rw [condN h1, condD h2, decide_eq_false (by omega)]
  by_cases h3 : p.Wheels < 0
  · rw [condN h1, condN h2, condD h3, decide_eq_false (by omega)]
  by_cases h4 : p.Wheels ≤ 2
  · rw [condN h1, condN h2, condN h3, condD h4, wr_id (by omega) (by omega)]
    congr 1
    rw [decide_eq_decide]
    omega
  · rw [condN h1, condN h2, condN h3, condN h4, decide_eq_false (by omega)]
theorem ref6_MayParty_eq (k : Nat) (p : Party) : ref6_MayParty k p = some (decide (MayP p)) := by
  unfold ref6_MayParty
  by_cases h1 : 1 ≤ p.Size
  · by_cases h2 : p.Size ≤ 8
    · by_cases h3 : 0 ≤ p.Wheels
      · by_cases h4 : p.Wheels ≤ 2
        · rw [condD h1, condD h2, condD h3, condD h4, wr_id (by omega) (by omega)]
          congr 1
          rw [decide_eq_decide]
          omega
        · rw [condD h1, condD h2, condD h3, condN h4, decide_eq_false (by omega)]
      · rw [condD h1, condD h2, condN h3, decide_eq_false (by omega)]
    · rw [condD h1, condN h2, decide_eq_false (by omega)]
  · rw [condN h1, decide_eq_false (by omega)]
/-- The kind of the j-th seat of a piece; 0 outside. -/
def kd (v : Venue) (s : Int) (m : Nat) (j : Int) : Int := if 0 ≤ j ∧ j < m then (seatA v (s + j)).Kind else 0
def kF (v : Venue) (s : Int) (m : Nat) : Nat → Nat → Int → Int → Ex (Int × Int) Bool
  | 0, _, w, c => .go (w, c)
  | d + 1, j, w, c => if kd v s m j = 1 then (if ¬ kd v s m ((j : Int) - 1) = 2 ∧ ¬ kd v s m ((j : Int) + 1) = 2 then .rt false else kF v s m d (j + 1) (w + 1) c) else if kd v s m j = 2 then kF v s m d (j + 1) w (c + 1) else kF v s m d (j + 1) w c
def kindsB (v : Venue) (s : Int) (m : Nat) (want : Int) : Bool := match kF v s m m 0 0 0 with
  | .go (w, c) => decide (w = want ∧ (want = 0 → c ≤ 0))
  | .rt b => b
theorem kinds_1_eq (k : Nat) (h : PlaceHall) (s : Int) (m : Nat) (hs : 0 ≤ s ∧ s + m ≤ h.V.Seats.length) (j : Int) : place_Hall_kinds_1 k j (rangeL s m) h = some (kd h.V s m j) := by
  unfold place_Hall_kinds_1 kd
  by_cases h1 : j < 0
  · rw [condD h1, if_neg (by omega)]
  by_cases h2 : ((rangeL s m).length : Int) ≤ j
  · rw [condN h1, condD h2, if_neg (by rw [rangeL_len] at h2; omega)]
  rw [rangeL_len] at h2
  obtain ⟨q, rfl⟩ := Int.eq_ofNat_of_zero_le (by omega : 0 ≤ j)
  rw [condN h1, condN (by rw [rangeL_len]; exact h2), bindS (idx_get (by omega) (by rw [Int.toNat_natCast]; exact rangeL_get (by omega))), bindS (seat_idx (by omega) (by omega)), if_pos (by omega)]
theorem place_kinds_l0_eq (k : Nat) (h : PlaceHall) (s : Int) (m : Nat) (hs : 0 ≤ s ∧ s + m ≤ h.V.Seats.length) (hm : m ≤ 1000) : ∀ (d n j : Nat) (w c : Int), j + d = m → d < n → 0 ≤ w → w ≤ j → 0 ≤ c → c ≤ j →
    place_Hall_kinds_l0 k h (rangeL s m) n w c (j : Int) = some (kF h.V s m d j w c)
  | d, 0, j, w, c, _, hd, _, _, _, _ => absurd hd (by omega)
  | 0, n + 1, j, w, c, hj, _, _, _, _, _ => by
    rw [place_Hall_kinds_l0, condN (by rw [rangeL_len]; omega), kF]
  | d + 1, n + 1, j, w, c, hj, hd, w0, w1, c0, c1 => by
    rw [place_Hall_kinds_l0, condD (by rw [rangeL_len]; omega), bindS (kinds_1_eq k h s m hs _), wr_succ (by omega), kF, wr_id (x := w + 1) (by omega) (by omega), wr_id (x := c + 1) (by omega) (by omega)]
    by_cases h1 : kd h.V s m j = 1
    · rw [condD h1, if_pos h1, wr_id (x := (j : Int) - 1) (by omega) (by omega), bindS (kinds_1_eq k h s m hs _)]
      by_cases h2 : kd h.V s m ((j : Int) - 1) = 2
      · rw [condNT h2, if_neg (fun h => h.1 h2)]
        exact place_kinds_l0_eq k h s m hs hm d n (j + 1) (w + 1) c (by omega) (by omega) (by omega) (by omega) (by omega) (by omega)
      · rw [condNF h2, show ((j + 1 : Nat) : Int) = (j : Int) + 1 by omega, bindS (kinds_1_eq k h s m hs _)]
        by_cases h3 : kd h.V s m ((j : Int) + 1) = 2
        · rw [condNT h3, if_neg (fun h => h.2 h3)]
          exact place_kinds_l0_eq k h s m hs hm d n (j + 1) (w + 1) c (by omega) (by omega) (by omega) (by omega) (by omega) (by omega)
        · rw [condNF h3, if_pos ⟨h2, h3⟩]
    · rw [condN h1, if_neg h1]
      by_cases h2 : kd h.V s m j = 2
      · rw [condD h2, if_pos h2]
        exact place_kinds_l0_eq k h s m hs hm d n (j + 1) w (c + 1) (by omega) (by omega) (by omega) (by omega) (by omega) (by omega)
      · rw [condN h2, if_neg h2]
        exact place_kinds_l0_eq k h s m hs hm d n (j + 1) w c (by omega) (by omega) (by omega) (by omega) (by omega) (by omega)
theorem kF_pos {v : Venue} {s : Int} {m : Nat} : ∀ {d j : Nat} {w c : Int} {o : Int × Int}, kF v s m d j w c = .go o → 0 ≤ w → 0 ≤ c → 0 ≤ o.1 ∧ 0 ≤ o.2
  | 0, j, w, c, o, h, hw, hc => by rw [kF] at h; cases h; exact ⟨hw, hc⟩
  | d + 1, j, w, c, o, h, hw, hc => by
    rw [kF] at h
    split at h
    · split at h
      · cases h
      · exact kF_pos h (by omega) hc
    · split at h
      · exact kF_pos h hw (by omega)
      · exact kF_pos h hw hc
theorem place_Hall_kinds_eq (k : Nat) (h : PlaceHall) (s : Int) (m : Nat) (want : Int) (hs : 0 ≤ s ∧ s + m ≤ h.V.Seats.length) (hm : m ≤ 1000) (hk : m < k) : place_Hall_kinds k h (rangeL s m) want = some (kindsB h.V s m want) := by
  unfold place_Hall_kinds kindsB
  have e : place_Hall_kinds_l0 k h (rangeL s m) k 0 0 0 = _ := place_kinds_l0_eq k h s m hs hm m k 0 0 0 (by omega) hk (by omega) (by omega) (by omega) (by omega)
  rw [bindS e]
  cases hr : kF h.V s m m 0 0 0 with
  | rt b => rw [elim_rt]
  | go o =>
    obtain ⟨w, c⟩ := o
    rw [elim_go]
    simp only
    by_cases h0 : want = 0
    · rw [condD h0]
      by_cases h1 : 0 < c
      · rw [condD h1, decide_eq_false (fun h => by have := h.2 h0; omega)]
      · rw [condN h1]
        by_cases h2 : w = want
        · rw [condNT h2, decide_eq_true ⟨h2, fun _ => by omega⟩]
        · rw [condNF h2, decide_eq_false (fun h => h2 h.1)]
    · rw [condN h0]
      by_cases h2 : w = want
      · rw [condNT h2, decide_eq_true ⟨h2, fun h => absurd h h0⟩]
      · rw [condNF h2, decide_eq_false (fun h => h2 h.1)]
noncomputable def placeB (v : Venue) (U : List Bool) (p : Party) (s : Int) : Bool := decide (MayP p ∧ p.Size ≤ runN v U s) && kindsB v s p.Size.toNat p.Wheels
theorem place_Hall_Seats_eq {k : Nat} {h : PlaceHall} (p : Party) {s : Int} (hs : okI s) (hN : h.V.Seats.length < k) (hb : k ≤ 4294967290) (hk : 1000 < k) : place_Hall_Seats k h p s = some (if placeB h.V h.usable p s = true then (rangeL s p.Size.toNat, true) else ([], false)) := by
  unfold place_Hall_Seats placeB
  rw [bindS (party_May_eq _ _), bindS (run_Take_eq _ hs hN hb)]
  by_cases hm : MayP p
  · rw [condNT hm]
    unfold takeV
    by_cases hr : p.Size ≤ runN h.V h.usable s
    · have hpos := runN_pos (v := h.V) (U := h.usable) (s := s) (by omega) (by omega)
      rw [if_pos ⟨hm.1, hr⟩]
      simp only
      rw [cNT, bindS (place_Hall_kinds_eq k h s p.Size.toNat p.Wheels (by omega) (by omega) (by omega)), decide_eq_true ⟨hm, hr⟩, Bool.true_and]
      cases kindsB h.V s p.Size.toNat p.Wheels <;> rfl
    · rw [if_neg (fun h => hr h.2), decide_eq_false (fun h => hr h.2)]
      rfl
  · rw [condNF hm, decide_eq_false (fun h => hm h.1)]
    rfl
/- the reference -/
theorem ref6_kind_eq (k : Nat) (h : Ref6Hall) (s : Int) (m : Nat) (hs : 0 ≤ s ∧ s + m ≤ h.V.Seats.length) (hm : 1 ≤ m) (j : Int) : ∃ x, ref6_Hall_kind k h (s + j) s (s + m - 1) = some x ∧ (x = 2 ↔ kd h.V s m j = 2) := by
  unfold ref6_Hall_kind kd
  by_cases h1 : s + j < s
  · rw [condD h1, if_neg (by omega)]
    exact ⟨_, rfl, by omega⟩
  by_cases h2 : s + m - 1 < s + j
  · rw [condN h1, condD h2, if_neg (by omega)]
    exact ⟨_, rfl, by omega⟩
  rw [condN h1, condN h2, bindS (seat_idx (by omega) (by omega)), if_pos (by omega)]
  exact ⟨_, rfl, Iff.rfl⟩
theorem ref6_Hall_May_l0_eq (k : Nat) (h : Ref6Hall) (p : Party) (s : Int) (m : Nat) (hp : p.Size = m) (hs : 0 ≤ s ∧ s + m ≤ h.V.Seats.length) (hN : h.V.Seats.length ≤ 4294967290) (hm : 1 ≤ m ∧ m ≤ 1000) : ∀ (d n j : Nat) (w c : Int), j + d = m → d < n → 0 ≤ w → w ≤ j → 0 ≤ c → c ≤ j →
    ref6_Hall_May_l0 k h p s n w c (s + (j : Int)) = some (kF h.V s m d j w c)
  | d, 0, j, w, c, _, hd, _, _, _, _ => absurd hd (by omega)
  | 0, n + 1, j, w, c, hj, _, _, _, _, _ => by
    rw [ref6_Hall_May_l0, hp, wr_id (x := s + (m : Int)) (by omega) (by omega), wr_id (x := s + (m : Int) - 1) (by omega) (by omega), condN (by omega), kF]
  | d + 1, n + 1, j, w, c, hj, hd, w0, w1, c0, c1 => by
    have hrec : ∀ w c : Int, 0 ≤ w → w ≤ j + 1 → 0 ≤ c → c ≤ j + 1 → ref6_Hall_May_l0 k h p s n w c (s + ((j + 1 : Nat) : Int)) = some (kF h.V s m d (j + 1) w c) := fun w c a1 a2 a3 a4 =>
      ref6_Hall_May_l0_eq k h p s m hp hs hN hm d n (j + 1) w c (by omega) (by omega) a1 (by omega) a3 (by omega)
    have hkd : kd h.V s m j = (seatA h.V (s + j)).Kind := by unfold kd; rw [if_pos (by omega)]
    obtain ⟨x, e1, f1⟩ := ref6_kind_eq k h s m hs hm.1 ((j : Int) - 1)
    obtain ⟨y, e2, f2⟩ := ref6_kind_eq k h s m hs hm.1 ((j : Int) + 1)
    rw [ref6_Hall_May_l0, hp, wr_id (x := s + (m : Int)) (by omega) (by omega), wr_id (x := s + (m : Int) - 1) (by omega) (by omega), condD (by omega), bindS (seat_idx (by omega) (by omega)), ← hkd, wr_id (x := s + (j : Int) + 1) (by omega) (by omega), kF, wr_id (x := w + 1) (by omega) (by omega), wr_id (x := c + 1) (by omega) (by omega), wr_id (x := s + (j : Int) - 1) (by omega) (by omega),
      show s + (j : Int) - 1 = s + ((j : Int) - 1) by omega, show s + (j : Int) + 1 = s + ((j : Int) + 1) by omega, bindS e1, bindS e2]
    rw [show s + ((j : Int) + 1) = s + ((j + 1 : Nat) : Int) by omega]
    by_cases h1 : kd h.V s m j = 1
    · rw [condD h1, if_pos h1]
      by_cases h2 : x = 2
      · rw [condNT h2, if_neg (fun h => h.1 (f1.1 h2))]
        exact hrec _ _ (by omega) (by omega) (by omega) (by omega)
      · rw [condNF h2]
        by_cases h3 : y = 2
        · rw [condNT h3, if_neg (fun h => h.2 (f2.1 h3))]
          exact hrec _ _ (by omega) (by omega) (by omega) (by omega)
        · rw [condNF h3, if_pos ⟨fun h => h2 (f1.2 h), fun h => h3 (f2.2 h)⟩]
    · rw [condN h1, if_neg h1]
      by_cases h2 : kd h.V s m j = 2
      · rw [condD h2, if_pos h2]
        exact hrec _ _ (by omega) (by omega) (by omega) (by omega)
      · rw [condN h2, if_neg h2]
        exact hrec _ _ (by omega) (by omega) (by omega) (by omega)
theorem ref6_Hall_May_eq {k : Nat} {h : Ref6Hall} (p : Party) {s : Int} (hN : h.V.Seats.length < k) (hb : k ≤ 4294967290) (hk : 1000 < k) : ref6_Hall_May k h p s = some (placeB h.V h.U p s) := by
  unfold ref6_Hall_May placeB
  rw [bindS (ref6_MayParty_eq _ _), bindS (ref6_long_N hN hb)]
  by_cases hm : MayP p
  · rw [condNT hm, bindS rfl]
    by_cases hr : p.Size ≤ runN h.V h.U s
    · have hpos := runN_pos (v := h.V) (U := h.U) (s := s) (by omega) (by omega)
      obtain ⟨m, hpm⟩ := Int.eq_ofNat_of_zero_le (by omega : 0 ≤ p.Size)
      have e := ref6_Hall_May_l0_eq k h p s m hpm (by omega) (by omega) (by omega) m k 0 0 0 (by omega) (by omega) (by omega) (by omega) (by omega) (by omega)
      rw [show s + ((0 : Nat) : Int) = s by omega] at e
      rw [condN (by omega), bindS e, decide_eq_true ⟨hm, hr⟩, Bool.true_and, hpm, Int.toNat_natCast]
      unfold kindsB
      cases hf : kF h.V s m m 0 0 0 with
      | rt b => rw [elim_rt]
      | go o =>
        obtain ⟨w, c⟩ := o
        have hpos := kF_pos hf (by omega) (by omega)
        simp only at hpos
        rw [elim_go]
        simp only
        by_cases h1 : w = p.Wheels
        · rw [condD h1]
          by_cases h2 : 0 < w
          · rw [condD h2, decide_eq_true ⟨h1, fun h => by omega⟩]
          · rw [condN h2]
            congr 1
            rw [decide_eq_decide]
            constructor
            · intro h; exact ⟨h1, fun _ => by omega⟩
            · intro h; have := h.2 (by omega); omega
        · rw [condN h1, decide_eq_false (fun h => h1 h.1)]
    · rw [condD (by omega), decide_eq_false (fun h => hr h.2), Bool.false_and]
  · rw [condNF hm, bindS rfl, condT rfl, decide_eq_false (fun h => hm h.1), Bool.false_and]
/-- The first seats at which a party may sit. -/
noncomputable def allL (v : Venue) (U : List Bool) (p : Party) : List Int := ((List.range v.Seats.length).filter (fun s : Nat => placeB v U p (s : Int))).map (fun j : Nat => (j : Int))
theorem ref6_Hall_All_eq {k : Nat} {h : Ref6Hall} (p : Party) (hN : h.V.Seats.length < k) (hb : k ≤ 4294967290) (hk : 1000 < k) : ref6_Hall_All k h p = some (allL h.V h.U p) := by
  unfold ref6_Hall_All
  have e := gather0 (f := fun n a i => ref6_Hall_All_l0 k h p n a i) (len := h.V.Seats.length) (c := 0) (fun s : Nat => placeB h.V h.U p (s : Int)) (fun j : Nat => (j : Int))
    (fun n i w hi hw => by
      show ref6_Hall_All_l0 k h p (n + 1) w (i : Int) = ref6_Hall_All_l0 k h p n _ _
      rw [ref6_Hall_All_l0, condD (by omega), bindS (ref6_Hall_May_eq p hN hb hk), wr_succ (by omega)]
      cases placeB h.V h.U p (i : Int)
      · rw [if_neg (by simp)]; rfl
      · rw [if_pos rfl, cond_true, gdD (by simp only [List.length_singleton]; omega)])
    (fun n w => by show ref6_Hall_All_l0 k h p (n + 1) w _ = _; rw [ref6_Hall_All_l0, condN (by omega)])
    hN [] (by simp)
  have e : ref6_Hall_All_l0 k h p k [] 0 = _ := e
  rw [bindS e]
  rfl
theorem allL_len (v : Venue) (U : List Bool) (p : Party) : (allL v U p).length ≤ v.Seats.length := by
  unfold allL
  rw [List.length_map]
  have := List.length_filter_le (fun s : Nat => placeB v U p (s : Int)) (List.range v.Seats.length)
  rw [List.length_range] at this
  exact this
/- apart -/
def ApP (v : Venue) (s : Int) (m : Nat) (t : Int) (n : Nat) : Prop := ∀ x, x < m → ∀ y, y < n → ¬ s + (x : Int) = t + (y : Int) ∧ closeB (seatA v (s + x)) (seatA v (t + y)) v.Radius = false
open Classical in
noncomputable def apB (v : Venue) (s : Int) (m : Nat) (t : Int) (n : Nat) : Bool := decide (ApP v s m t n)
open Classical in
theorem apB_iff {v : Venue} {s : Int} {m : Nat} {t : Int} {n : Nat} : apB v s m t n = true ↔ ApP v s m t n := by unfold apB; exact decide_eq_true_iff
theorem apB_no {v : Venue} {s : Int} {m : Nat} {t : Int} {n : Nat} (h : ¬ ApP v s m t n) : apB v s m t n = false := by
  cases e : apB v s m t n
  · rfl
  · exact absurd (apB_iff.1 e) h
/-- Both double loops, once for all. -/
theorem ap_gen {v : Venue} {s : Int} {m : Nat} {t : Int} {n : Nat} {f2 : Nat → Int → Option (Ex Unit Bool)} {f3 : Int → Nat → Int → Option (Ex Unit Bool)} {k : Nat}
    (hs3 : ∀ (x : Nat) q (y : Nat), x < m → y < n → f3 (s + x) (q + 1) (t + y) = if ¬ s + (x : Int) = t + (y : Int) ∧ closeB (seatA v (s + x)) (seatA v (t + y)) v.Radius = false then f3 (s + x) q (t + ((y + 1 : Nat) : Int)) else some (.rt false))
    (he3 : ∀ (x : Nat) q, x < m → f3 (s + x) (q + 1) (t + n) = some (.go ()))
    (hs2 : ∀ q (x : Nat), x < m → f2 (q + 1) (s + x) = Option.bind (f3 (s + x) k t) fun o => Ex.elim o (fun _ => f2 q (s + ((x + 1 : Nat) : Int))) (fun rr => some (.rt rr)))
    (he2 : ∀ q, f2 (q + 1) (s + m) = some (.go ())) (hm : m < k) (hn : n < k) : f2 k s = some (if apB v s m t n = true then .go () else .rt false) := by
  have h3 : ∀ x : Nat, x < m → ((∀ y, y < n → ¬ s + (x : Int) = t + (y : Int) ∧ closeB (seatA v (s + x)) (seatA v (t + y)) v.Radius = false) ∧ f3 (s + x) k t = some (.go ())) ∨ ((¬ ∀ y, y < n → ¬ s + (x : Int) = t + (y : Int) ∧ closeB (seatA v (s + x)) (seatA v (t + y)) v.Radius = false) ∧ f3 (s + x) k t = some (.rt false)) := fun x hx => by
    have := scan (f := fun q i => f3 (s + x) q (t + i)) (len := n) (fun y => ¬ s + (x : Int) = t + (y : Int) ∧ closeB (seatA v (s + x)) (seatA v (t + y)) v.Radius = false) (r := false)
      (fun q y hy hg => by show f3 (s + x) (q + 1) (t + y) = _; rw [hs3 x q y hx hy, if_pos hg])
      (fun q y hy hg => by show f3 (s + x) (q + 1) (t + y) = _; rw [hs3 x q y hx hy, if_neg hg])
      (fun q => he3 x q hx) hn
    simp only [Int.add_zero] at this
    exact this
  have := scan (f := fun q i => f2 q (s + i)) (len := m) (fun x => ∀ y, y < n → ¬ s + (x : Int) = t + (y : Int) ∧ closeB (seatA v (s + x)) (seatA v (t + y)) v.Radius = false) (r := false)
      (fun q x hx hg => by
        show f2 (q + 1) (s + x) = _
        rcases h3 x hx with ⟨_, e⟩ | ⟨hn, _⟩
        · rw [hs2 q x hx, bindS e, elim_go]
        · exact absurd hg hn)
      (fun q x hx hg => by
        show f2 (q + 1) (s + x) = _
        rcases h3 x hx with ⟨hy, _⟩ | ⟨_, e⟩
        · exact absurd hy hg
        · rw [hs2 q x hx, bindS e, elim_rt])
      (fun q => he2 q) hm
  simp only [Int.add_zero] at this
  rcases this with ⟨a, b⟩ | ⟨a, b⟩
  · rw [b, apB_iff.2 a]
    rfl
  · rw [b, apB_no a]
    rfl
theorem place_Hall_Apart_eq {k : Nat} {h : PlaceHall} {p q : Party} {s t : Int} {m n : Nat} (hp : p.Size = m) (hq : q.Size = n) (hs : 0 ≤ s ∧ s + m ≤ h.V.Seats.length) (ht : 0 ≤ t ∧ t + n ≤ h.V.Seats.length) (hN : h.V.Seats.length < k) (hb : k ≤ 4294967290) (hk : 1000 < k) : place_Hall_Apart k h p s q t = some (apB h.V s m t n) := by
  unfold place_Hall_Apart
  have e := ap_gen (v := h.V) (s := s) (m := m) (t := t) (n := n) (f2 := fun a b => place_Hall_Apart_l2 k h p s q t a b) (f3 := fun x a b => place_Hall_Apart_l3 k h q t x a b) (k := k)
    (fun x z y hx hy => by
      show place_Hall_Apart_l3 k h q t (s + x) (z + 1) (t + y) = if _ then place_Hall_Apart_l3 k h q t (s + x) z _ else _
      rw [place_Hall_Apart_l3, hq, wr_id (x := t + (n : Int)) (by omega) (by omega), condD (by omega), bindS (seat_idx (by omega) (by omega)), bindS (seat_idx (by omega) (by omega)), bindS (geom_Close_eq _ _ _ _ (by omega)), wr_id (x := t + (y : Int) + 1) (by omega) (by omega), show t + (y : Int) + 1 = t + ((y + 1 : Nat) : Int) by omega]
      by_cases h1 : s + (x : Int) = t + (y : Int)
      · rw [condD h1, if_neg (fun h => h.1 h1)]
      · rw [condN h1]
        cases hc : closeB (seatA h.V (s + x)) (seatA h.V (t + y)) h.V.Radius
        · rw [if_pos ⟨h1, rfl⟩]; rfl
        · rw [if_neg (fun h => by cases h.2)]; rfl)
    (fun x z hx => by
      show place_Hall_Apart_l3 k h q t (s + x) (z + 1) (t + n) = _
      rw [place_Hall_Apart_l3, hq, wr_id (x := t + (n : Int)) (by omega) (by omega), condN (by omega)])
    (fun z x hx => by
      show place_Hall_Apart_l2 k h p s q t (z + 1) (s + x) = _
      rw [place_Hall_Apart_l2, hp, wr_id (x := s + (m : Int)) (by omega) (by omega), condD (by omega), wr_id (x := s + (x : Int) + 1) (by omega) (by omega), show s + (x : Int) + 1 = s + ((x + 1 : Nat) : Int) by omega])
    (fun z => by
      show place_Hall_Apart_l2 k h p s q t (z + 1) (s + m) = _
      rw [place_Hall_Apart_l2, hp, wr_id (x := s + (m : Int)) (by omega) (by omega), condN (by omega)])
    (by omega) (by omega)
  have e : place_Hall_Apart_l2 k h p s q t k s = _ := e
  rw [bindS e]
  cases apB h.V s m t n
  · rw [if_neg (by simp), elim_rt]
  · rw [if_pos rfl, elim_go]
theorem ref6_clash_eq {k : Nat} {v : Venue} (hM : MayV v) {x y : Int} (hx : 0 ≤ x ∧ x < v.Seats.length) (hy : 0 ≤ y ∧ y < v.Seats.length) (hxy : ¬ x = y) : ref6_clash k v x y = some (closeB (seatA v x) (seatA v y) v.Radius) := by
  have hr := hM.radius
  unfold ref6_clash
  rw [bindS (ref6_seat_eq _ _ _), condD hx, bindS (ref6_seat_eq _ _ _), condD hy, condNF hxy, bindS (seat_idx hx.1 hx.2), bindS (seat_idx hy.1 hy.2), bindS (ref6_Far_eq _ _ _), bindS (ref6_square_eq _ _ ⟨by omega, by omega⟩)]
  rfl
end Go.Px
