/- What the plans compute. -/
import Derived.Test.YtlfpkjlaajfjnaaPPlaceApart
set_option linter.unusedVariables false
set_option linter.unusedSimpArgs false
namespace Go.Px
open Go Go.Sh
section
open Classical
noncomputable def dB (p : Prop) : Bool := decide p
theorem dB_iff {p : Prop} : dB p = true ↔ p := by unfold dB; exact decide_eq_true_iff
theorem dB_T {p : Prop} (h : p) : dB p = true := dB_iff.2 h
theorem dB_F {p : Prop} (h : ¬ p) : dB p = false := by
  cases e : dB p
  · rfl
  · exact absurd (dB_iff.1 e) h
/-- The first place at which `g` does not hold; -1 if there is none. -/
noncomputable def fstF (g : Nat → Prop) : Nat → Nat → Int
  | 0, _ => -1
  | d + 1, i => if g i then fstF g d (i + 1) else (i : Int)
theorem fstF_no {g : Nat → Prop} : ∀ {d i : Nat}, fstF g d i = -1 ↔ ∀ j, i ≤ j → j < i + d → g j
  | 0, i => ⟨fun _ j h1 h2 => absurd h2 (by omega), fun _ => rfl⟩
  | d + 1, i => by
    rw [fstF]
    split
    · rename_i hg
      rw [fstF_no]
      constructor
      · intro h j h1 h2
        rcases Nat.lt_or_ge i j with hl | hl
        · exact h j (by omega) (by omega)
        · rw [show j = i by omega]; exact hg
      · intro h j h1 h2
        exact h j (by omega) (by omega)
    · rename_i hg
      constructor
      · intro h; omega
      · intro h; exact absurd (h i (by omega) (by omega)) hg
theorem fstF_at {g : Nat → Prop} {m : Nat} : ∀ {d i : Nat}, i ≤ m → m < i + d → (∀ j, i ≤ j → j < m → g j) → ¬ g m → fstF g d i = (m : Int)
  | 0, i, _, h, _, _ => absurd h (by omega)
  | d + 1, i, h1, h2, h3, h4 => by
    rw [fstF]
    split
    · rename_i hg
      rcases Nat.lt_or_ge i m with hl | hl
      · exact fstF_at (by omega) (by omega) (fun j a b => h3 j (by omega) b) h4
      · exact absurd (show g m by rw [show m = i by omega]; exact hg) h4
    · rename_i hg
      rcases Nat.lt_or_ge i m with hl | hl
      · exact absurd (h3 i (by omega) hl) hg
      · rw [show i = m by omega]
end
theorem fstF_all {g : Nat → Prop} {n : Nat} : fstF g n 0 = -1 ↔ ∀ j, j < n → g j := by
  rw [fstF_no]
  exact ⟨fun h j hj => h j (by omega) (by omega), fun h j _ hj => h j (by omega)⟩
/-- A loop that goes on while `g` holds; each step knows that it held before. -/
theorem scanF {τ ρ : Type} {F : Nat → Nat → Option (Ex τ ρ)} {len : Nat} (g : Nat → Prop) {t : τ} (r : Nat → ρ)
    (hs : ∀ n i : Nat, i < len → (∀ j, j < i → g j) → g i → F (n + 1) i = F n (i + 1))
    (hf : ∀ n i : Nat, i < len → (∀ j, j < i → g j) → ¬ g i → F (n + 1) i = some (.rt (r i)))
    (he : ∀ n, (∀ j, j < len → g j) → F (n + 1) len = some (.go t)) : ∀ d n i : Nat, i + d = len → d < n → (∀ j, j < i → g j) → F n i = some (if fstF g d i = -1 then .go t else .rt (r (fstF g d i).toNat))
  | d, 0, i, _, h, _ => absurd h (by omega)
  | 0, n + 1, i, hi, _, hg => by
    obtain rfl : i = len := by omega
    rw [he n hg, fstF, if_pos rfl]
  | d + 1, n + 1, i, hi, h, hg => by
    rw [fstF]
    rcases Classical.em (g i) with hh | hh
    · rw [hs n i (by omega) hg hh, if_pos hh]
      refine scanF g r hs hf he d n (i + 1) (by omega) (by omega) fun j hj => ?_
      rcases Nat.lt_or_ge j i with hl | hl
      · exact hg j hl
      · rw [show j = i by omega]; exact hh
    · rw [hf n i (by omega) hg hh, if_neg hh, if_neg (by omega), Int.toNat_natCast]
theorem scanF0 {τ ρ : Type} {F : Nat → Nat → Option (Ex τ ρ)} {len k : Nat} (g : Nat → Prop) {t : τ} (r : Nat → ρ)
    (hs : ∀ n i : Nat, i < len → (∀ j, j < i → g j) → g i → F (n + 1) i = F n (i + 1))
    (hf : ∀ n i : Nat, i < len → (∀ j, j < i → g j) → ¬ g i → F (n + 1) i = some (.rt (r i)))
    (he : ∀ n, (∀ j, j < len → g j) → F (n + 1) len = some (.go t)) (hk : len < k) : F k 0 = some (if fstF g len 0 = -1 then .go t else .rt (r (fstF g len 0).toNat)) :=
  scanF g r hs hf he len k 0 (by omega) hk (fun j hj => absurd hj (by omega))
/-- The same, if nothing is told of where it stopped. -/
theorem scanB {τ ρ : Type} {F : Nat → Nat → Option (Ex τ ρ)} {len k : Nat} (g : Nat → Prop) {t : τ} {r : ρ}
    (hs : ∀ n i : Nat, i < len → (∀ j, j < i → g j) → g i → F (n + 1) i = F n (i + 1))
    (hf : ∀ n i : Nat, i < len → (∀ j, j < i → g j) → ¬ g i → F (n + 1) i = some (.rt r))
    (he : ∀ n, (∀ j, j < len → g j) → F (n + 1) len = some (.go t)) (hk : len < k) : F k 0 = some (if dB (∀ j, j < len → g j) = true then .go t else .rt r) := by
  rw [scanF0 g (fun _ => r) hs hf he hk]
  rcases Classical.em (∀ j, j < len → g j) with h | h
  · rw [dB_T h, if_pos (fstF_all.2 h), if_pos rfl]
  · rw [dB_F h, if_neg (fun e => h (fstF_all.1 e)), if_neg (by simp)]
/-- The item at a place. -/
def aI {α : Type} [Inhabited α] (l : List α) (x : Int) : α := l.getD x.toNat default
theorem idx_aI {α : Type} [Inhabited α] {l : List α} {x : Int} (h0 : 0 ≤ x) (h : x < (l.length : Int)) : idx l x = some (aI l x) := by
  refine idx_get h0 ?_
  unfold aI
  rw [List.getD_eq_getElem?_getD, List.getElem?_eq_getElem (by omega)]
  rfl
theorem aI_mem {α : Type} [Inhabited α] {l : List α} {x : Int} (h0 : 0 ≤ x) (h : x < (l.length : Int)) : aI l x ∈ l := by
  unfold aI
  rw [List.getD_eq_getElem?_getD, List.getElem?_eq_getElem (by omega)]
  exact List.getElem_mem _
theorem mem_aI {α : Type} [Inhabited α] {l : List α} {y : α} (h : y ∈ l) : ∃ i : Nat, i < l.length ∧ aI l (i : Int) = y := by
  obtain ⟨i, hi, e⟩ := List.getElem_of_mem h
  refine ⟨i, hi, ?_⟩
  unfold aI
  rw [Int.toNat_natCast, List.getD_eq_getElem?_getD, List.getElem?_eq_getElem hi]
  exact e
abbrev AllMay (L : List Party) : Prop := L.length ≤ 512 ∧ ∀ i : Nat, i < L.length → MayP (aI L i)
theorem party_All_1_eq (k : Nat) (p : Party) : party_All_1 k p = some (!decide (MayP p)) := by
  unfold party_All_1
  rw [bindS (party_May_eq k p)]
theorem party_All_eq {k : Nat} {L : List Party} (hk : L.length < k) (hb : k ≤ 4294967290) : party_All k L = some (dB (AllMay L)) := by
  unfold party_All slices_ContainsFunc_Party slices_IndexFunc_Party
  by_cases hl : (L.length : Int) ≤ 512
  · rw [condD hl]
    have e := scanF0 (F := fun n i => slices_IndexFunc_Party_l0 k L (fun p4 => party_All_1 k p4) n (i : Int)) (len := L.length) (k := k) (fun i => MayP (aI L i)) (t := ()) (fun i => (i : Int))
      (fun n i hi _ hg => by
        rw [slices_IndexFunc_Party_l0, condD (by omega), bindS (idx_aI (by omega) (by omega)), bindS (party_All_1_eq k _), wr_succ (by omega), decide_eq_true hg]
        rfl)
      (fun n i hi _ hg => by
        rw [slices_IndexFunc_Party_l0, condD (by omega), bindS (idx_aI (by omega) (by omega)), bindS (party_All_1_eq k _), wr_succ (by omega), decide_eq_false hg]
        rfl)
      (fun n _ => by
        rw [slices_IndexFunc_Party_l0, condN (by omega)]) hk
    have e : slices_IndexFunc_Party_l0 k L (fun p4 => party_All_1 k p4) k 0 = _ := e
    rw [e]
    rcases Classical.em (∀ j : Nat, j < L.length → MayP (aI L j)) with h | h
    · rw [if_pos (fstF_all.2 h), dB_T ⟨by omega, h⟩, bindS (x := some _) rfl, elim_go]
      rfl
    · have hne : ¬ fstF (fun i : Nat => MayP (aI L i)) L.length 0 = -1 := fun e => h (fstF_all.1 e)
      rw [if_neg hne, dB_F (fun x => h x.2), bindS (x := some _) rfl, elim_rt, bindS (x := some _) rfl, bindS (x := some _) rfl, decide_eq_true (by omega)]
      rfl
  · rw [condN hl, dB_F (fun h => hl (by omega))]
theorem ref6_AllParties_eq {k : Nat} {L : List Party} (hk : L.length < k) (hb : k ≤ 4294967290) : ref6_AllParties k L = some (dB (AllMay L)) := by
  unfold ref6_AllParties
  have e := scanB (F := fun n i => ref6_AllParties_l0 k L n (i : Int)) (len := L.length) (k := k) (fun i => MayP (aI L i)) (t := ()) (r := false)
    (fun n i hi _ hg => by
      rw [ref6_AllParties_l0, condD (by omega), bindS (idx_aI (by omega) (by omega)), bindS (ref6_MayParty_eq k _), wr_succ (by omega), decide_eq_true hg]
      rfl)
    (fun n i hi _ hg => by
      rw [ref6_AllParties_l0, condD (by omega), bindS (idx_aI (by omega) (by omega)), bindS (ref6_MayParty_eq k _), wr_succ (by omega), decide_eq_false hg]
      rfl)
    (fun n _ => by
      rw [ref6_AllParties_l0, condN (by omega)]) hk
  have e : ref6_AllParties_l0 k L k 0 = _ := e
  rw [bindS e]
  rcases Classical.em (∀ j : Nat, j < L.length → MayP (aI L j)) with h | h
  · rw [dB_T h, if_pos rfl, elim_go]
    by_cases hl : (L.length : Int) ≤ 512
    · rw [decide_eq_true hl, dB_T ⟨by omega, h⟩]
    · rw [decide_eq_false hl, dB_F (fun x => hl (by omega))]
  · rw [dB_F h, if_neg (by simp), elim_rt, dB_F (fun x => h x.2)]
/- maps -/
theorem mfind_snd (x : Int) : ∀ (l : List (Int × Int)) (i j : Nat), (mfind l x i).map (·.2) = (mfind l x j).map (·.2)
  | [], _, _ => rfl
  | p :: l, i, j => by
    rw [mfind, mfind]
    split
    · rfl
    · exact mfind_snd x l _ _
theorem mget_nil (x : Int) : mget [] x = none := rfl
theorem mget_cons (p : Int × Int) (l : List (Int × Int)) (x : Int) : mget (p :: l) x = if x = p.1 then some p.2 else mget l x := by
  unfold mget
  rw [mfind]
  split
  · rfl
  · exact mfind_snd x l _ _
theorem mget_mset (x y v : Int) : ∀ l : List (Int × Int), mget (mset l y v) x = if x = y then some v else mget l x
  | [] => by rw [mset, mget_cons, mget_nil]
  | p :: l => by
    rw [mset]
    by_cases h : y = p.1
    · rw [if_pos h, mget_cons, mget_cons]
      by_cases h2 : x = y
      · rw [if_pos h2, if_pos h2]
      · rw [if_neg h2, if_neg h2, if_neg (by rw [← h]; exact h2)]
    · rw [if_neg h, mget_cons, mget_cons, mget_mset x y v l]
      by_cases h2 : x = y
      · rw [if_pos h2, if_pos h2, if_neg (by rw [h2]; exact h)]
      · rw [if_neg h2]
        split <;> simp_all
def pmN (P : List Pin) : Nat → List (Int × Int)
  | 0 => []
  | i + 1 => mset (pmN P i) (aI P i).Party (aI P i).First
/-- The pin of a party. -/
def pinAt (P : List Pin) (x : Int) : Option Int := mget (pmN P P.length) x
/-- The parties of the pins rise. -/
def RiseP (P : List Pin) : Prop := ∀ i j : Nat, i < j → j < P.length → (aI P i).Party < (aI P j).Party
theorem pmN_some {P : List Pin} {x f : Int} : ∀ {n : Nat}, mget (pmN P n) x = some f → ∃ i, i < n ∧ (aI P (i : Int)).Party = x ∧ (aI P (i : Int)).First = f
  | 0, h => by rw [pmN, mget_nil] at h; cases h
  | n + 1, h => by
    rw [pmN, mget_mset] at h
    split at h
    · rename_i hx
      cases h
      exact ⟨n, by omega, hx.symm, rfl⟩
    · obtain ⟨i, h1, h2⟩ := pmN_some h
      exact ⟨i, by omega, h2⟩
theorem pmN_get {P : List Pin} (hP : RiseP P) {i : Nat} : ∀ {n : Nat}, i < n → n ≤ P.length → mget (pmN P n) (aI P (i : Int)).Party = some (aI P (i : Int)).First
  | 0, h, _ => absurd h (by omega)
  | n + 1, h, hn => by
    rw [pmN, mget_mset]
    by_cases hi : i = n
    · rw [hi, if_pos rfl]
    · have := hP i n (by omega) (by omega)
      rw [if_neg (by omega)]
      exact pmN_get hP (by omega) (by omega)
theorem pinAt_get {P : List Pin} (hP : RiseP P) {i : Nat} (h : i < P.length) : pinAt P (aI P (i : Int)).Party = some (aI P (i : Int)).First := pmN_get hP h (Nat.le_refl _)
theorem pinAt_some {P : List Pin} {x f : Int} (h : pinAt P x = some f) : ∃ i, i < P.length ∧ (aI P (i : Int)).Party = x ∧ (aI P (i : Int)).First = f := pmN_some h
theorem ref6_pinned_eq {k : Nat} {P : List Pin} (hP : RiseP P) (hk : P.length < k) (hb : k ≤ 4294967290) (x : Int) : ref6_pinned k P x = some ((pinAt P x).getD (-1), (pinAt P x).isSome) := by
  unfold ref6_pinned
  have e := scanF0 (F := fun n i => ref6_pinned_l0 k P x n (i : Int)) (len := P.length) (k := k) (fun i => ¬ (aI P (i : Int)).Party = x) (t := ()) (fun i => ((aI P (i : Int)).First, true))
    (fun n i hi _ hg => by
      rw [ref6_pinned_l0, condD (by omega), bindS (idx_aI (by omega) (by omega)), wr_succ (by omega), condN hg])
    (fun n i hi _ hg => by
      rw [ref6_pinned_l0, condD (by omega), bindS (idx_aI (by omega) (by omega)), condD (Classical.not_not.1 hg), bindS (idx_aI (by omega) (by omega))])
    (fun n _ => by
      rw [ref6_pinned_l0, condN (by omega)]) hk
  have e : ref6_pinned_l0 k P x k 0 = _ := e
  rw [bindS e]
  rcases Classical.em (∀ j : Nat, j < P.length → ¬ (aI P (j : Int)).Party = x) with h | h
  · rw [if_pos (fstF_all.2 h), elim_go]
    cases hp : pinAt P x with
    | none => rfl
    | some f =>
      obtain ⟨i, h1, h2, _⟩ := pinAt_some hp
      exact absurd h2 (h i h1)
  · obtain ⟨j, hj⟩ := Classical.not_forall.1 h
    obtain ⟨h1, h2⟩ := Classical.not_imp.1 hj
    have h2 := Classical.not_not.1 h2
    have hf : fstF (fun i : Nat => ¬ (aI P (i : Int)).Party = x) P.length 0 = (j : Int) := fstF_at (by omega) (by omega) (fun i _ hi e => by have := hP i j hi h1; omega) (fun e => e h2)
    rw [hf, if_neg (by omega), elim_rt, Int.toNat_natCast, ← h2, pinAt_get hP h1]
    rfl
/- the halls' own words for one hall that may be -/
section
variable {k : Nat} {v : Venue}
theorem plB_in (hv : Small k v) {p : Party} {s : Int} (h : plB v p s = true) : MayV v ∧ MayP p ∧ 0 ≤ s ∧ s + p.Size ≤ v.Seats.length := by
  have hN := hv.hs
  have hb := hv.b
  unfold plB at h
  rw [Bool.and_eq_true] at h
  have := placeB_pos (by omega) h.2
  exact ⟨mayB_iff.1 h.1, this.1, this.2.1, this.2.2.1⟩
theorem plB_of (hM : MayV v) (p : Party) (s : Int) : placeB v (usL v) p s = plB v p s := by
  unfold plB
  rw [mayB_iff.2 hM, Bool.true_and]
theorem hall_Seats (hv : Small k v) (hM : MayV v) (hk : 1000 < k) (p : Party) {s : Int} (hs : okI s) : place_Hall_Seats k (PlaceHall.mk v (usL v)) p s = some (if plB v p s = true then (rangeL s p.Size.toNat, true) else ([], false)) := by
  rw [place_Hall_Seats_eq p hs hv.hs hv.b hk, ← plB_of hM]
theorem hall_Seats2 (hv : Small k v) (hM : MayV v) (hk : 1000 < k) (p : Party) {s : Int} (hs : okI s) : ∃ l, place_Hall_Seats k (PlaceHall.mk v (usL v)) p s = some (l, plB v p s) := by
  rw [hall_Seats hv hM hk p hs]
  cases plB v p s
  · exact ⟨_, rfl⟩
  · exact ⟨_, rfl⟩
theorem rhall_May (hv : Small k v) (hM : MayV v) (hk : 1000 < k) (p : Party) (s : Int) : ref6_Hall_May k (Ref6Hall.mk v (usL v)) p s = some (plB v p s) := by
  rw [ref6_Hall_May_eq p hv.hs hv.b hk, ← plB_of hM]
theorem rhall_Apart (hv : Small k v) (hM : MayV v) (hk : 1000 < k) (p : Party) (s : Int) (q : Party) (t : Int) : ref6_Hall_Apart k (Ref6Hall.mk v (usL v)) p s q t = some (aptB v p s q t) := by
  rw [ref6_Hall_Apart_eq hv hM hk p q]
  unfold aptB
  rw [← plB_of hM, ← plB_of hM]
theorem hall_Apart (hv : Small k v) (hM : MayV v) (hk : 1000 < k) {p : Party} {s : Int} {q : Party} {t : Int} (h1 : plB v p s = true) (h2 : plB v q t = true) : place_Hall_Apart k (PlaceHall.mk v (usL v)) p s q t = some (aptB v p s q t) := by
  obtain ⟨_, a1, a2, a3⟩ := plB_in hv h1
  obtain ⟨_, b1, b2, b3⟩ := plB_in hv h2
  rw [place_Hall_Apart_eq (m := p.Size.toNat) (n := q.Size.toNat) (by omega) (by omega) (by show 0 ≤ s ∧ s + (p.Size.toNat : Int) ≤ (v.Seats.length : Int); omega) (by show 0 ≤ t ∧ t + (q.Size.toNat : Int) ≤ (v.Seats.length : Int); omega) hv.hs hv.b hk]
  unfold aptB
  rw [h1, h2, Bool.true_and, Bool.true_and]
end
/- pins -/
structure PinG (v : Venue) (L : List Party) (P : List Pin) (i : Nat) : Prop where
  lo : 0 ≤ (aI P (i : Int)).Party
  hi : (aI P (i : Int)).Party < L.length
  rise : 0 < i → (aI P ((i - 1 : Nat) : Int)).Party < (aI P (i : Int)).Party
  pl : plB v (aI L (aI P (i : Int)).Party) (aI P (i : Int)).First = true
  ap : ∀ j : Nat, j < i → aptB v (aI L (aI P (i : Int)).Party) (aI P (i : Int)).First (aI L (aI P (j : Int)).Party) (aI P (j : Int)).First = true
abbrev PinOK (v : Venue) (L : List Party) (P : List Pin) : Prop := ∀ i, i < P.length → PinG v L P i
theorem PinOK.rise {v : Venue} {L : List Party} {P : List Pin} (h : PinOK v L P) : RiseP P := by
  intro i j hij hj
  obtain ⟨d, rfl⟩ : ∃ d, j = i + 1 + d := ⟨j - (i + 1), by omega⟩
  clear hij
  induction d with
  | zero =>
    have := (h (i + 1) hj).rise (by omega)
    exact this
  | succ d ih =>
    have := (h (i + 1 + (d + 1)) hj).rise (by omega)
    rw [show i + 1 + (d + 1) - 1 = i + 1 + d by omega] at this
    have := ih (by omega)
    omega
theorem PinOK_nil {v : Venue} {L : List Party} : PinOK v L [] := fun i hi => absurd hi (by simp)
section
variable {k : Nat} {v : Venue} {L : List Party} {P : List Pin}
theorem ref6_Hall_Pins_eq (hv : Small k v) (hM : MayV v) (hk : 1000 < k) (hL : L.length < k) (hP : P.length < k) : ref6_Hall_Pins k (Ref6Hall.mk v (usL v)) L P = some (dB (PinOK v L P ∧ AllMay L)) := by
  have hb := hv.b
  unfold ref6_Hall_Pins
  have h3 : ∀ i : Nat, i < P.length → 0 ≤ (aI P (i : Int)).Party → (aI P (i : Int)).Party < L.length → (∀ j, j < i → PinG v L P j) → ref6_Hall_Pins_l3 k (Ref6Hall.mk v (usL v)) L P (i : Int) (aI P (i : Int)) k 0 = some (if dB (∀ j : Nat, j < i → aptB v (aI L (aI P (i : Int)).Party) (aI P (i : Int)).First (aI L (aI P (j : Int)).Party) (aI P (j : Int)).First = true) = true then .go () else .rt false) := fun i hi h1 h2 hG =>
    scanB (F := fun n j => ref6_Hall_Pins_l3 k (Ref6Hall.mk v (usL v)) L P (i : Int) (aI P (i : Int)) n (j : Int)) (len := i) (k := k) (fun j => aptB v (aI L (aI P (i : Int)).Party) (aI P (i : Int)).First (aI L (aI P (j : Int)).Party) (aI P (j : Int)).First = true) (t := ()) (r := false)
      (fun n j hj _ hg => by
        have hGj := hG j hj
        rw [ref6_Hall_Pins_l3, condD (by omega), bindS (idx_aI h1 h2), bindS (idx_aI (by omega) (by omega)), bindS (idx_aI (by omega) (by omega)), bindS (idx_aI hGj.lo hGj.hi), bindS (idx_aI (by omega) (by omega)), bindS (rhall_Apart hv hM hk _ _ _ _), hg, cNT, wr_succ (by omega)])
      (fun n j hj _ hg => by
        have hGj := hG j hj
        rw [ref6_Hall_Pins_l3, condD (by omega), bindS (idx_aI h1 h2), bindS (idx_aI (by omega) (by omega)), bindS (idx_aI (by omega) (by omega)), bindS (idx_aI hGj.lo hGj.hi), bindS (idx_aI (by omega) (by omega)), bindS (rhall_Apart hv hM hk _ _ _ _), Bool.eq_false_iff.2 hg, cNF])
      (fun n _ => by
        rw [ref6_Hall_Pins_l3, condN (by omega)]) (by omega)
  have step : ∀ n i : Nat, i < P.length → (∀ j, j < i → PinG v L P j) → ref6_Hall_Pins_l2 k (Ref6Hall.mk v (usL v)) L P (n + 1) (i : Int) = if dB (PinG v L P i) = true then ref6_Hall_Pins_l2 k (Ref6Hall.mk v (usL v)) L P n ((i + 1 : Nat) : Int) else some (.rt false) := fun n i hi hG => by
    rw [ref6_Hall_Pins_l2, condD (by omega), bindS (idx_aI (by omega) (by omega))]
    by_cases h1 : (aI P (i : Int)).Party < 0
    · rw [condD h1, bindS rfl, condT rfl, dB_F (fun h => by have := h.lo; omega), if_neg (by simp)]
    by_cases h2 : (L.length : Int) ≤ (aI P (i : Int)).Party
    · rw [condN h1, condD h2, bindS rfl, condT rfl, dB_F (fun h => by have := h.hi; omega), if_neg (by simp)]
    rw [condN h1, condN h2]
    have key : ∀ (X : Option (Ex Unit Bool)), (0 < i → (aI P ((i - 1 : Nat) : Int)).Party < (aI P (i : Int)).Party) →
        (Option.bind (Option.bind (idx L (aI P (i : Int)).Party) fun y237 => Option.bind (idx P (i : Int)) fun y239 => Option.bind (ref6_Hall_May k (Ref6Hall.mk v (usL v)) y237 y239.First) fun r241 => some (!r241)) fun o210 => cond o210 (some (Ex.rt false)) (Option.bind (ref6_Hall_Pins_l3 k (Ref6Hall.mk v (usL v)) L P (i : Int) (aI P (i : Int)) k 0) fun o280 => Ex.elim o280 (fun v283 => X) (fun rr => some (Ex.rt rr)))) = if dB (PinG v L P i) = true then X else some (.rt false) := fun X hr => by
      rw [bindS (idx_aI (l := L) (by omega) (by omega)), bindS (idx_aI (l := P) (by omega) (by omega)), bindS (rhall_May hv hM hk _ _), bindS rfl]
      cases hp : plB v (aI L (aI P (i : Int)).Party) (aI P (i : Int)).First
      · rw [cNF, dB_F (fun h => by have := h.pl; rw [hp] at this; cases this), if_neg (by simp)]
      · rw [cNT, bindS (h3 i hi (by omega) (by omega) hG)]
        rcases Classical.em (∀ j : Nat, j < i → aptB v (aI L (aI P (i : Int)).Party) (aI P (i : Int)).First (aI L (aI P (j : Int)).Party) (aI P (j : Int)).First = true) with h | h
        · rw [dB_T h, if_pos rfl, elim_go, dB_T ⟨by omega, by omega, hr, hp, h⟩, if_pos rfl]
        · rw [dB_F h, if_neg (by simp), elim_rt, dB_F (fun x => h x.ap), if_neg (by simp)]
    by_cases h0 : 0 < i
    · rw [condD (by omega), wr_pred h0 (by omega), bindS (idx_aI (x := ((i - 1 : Nat) : Int)) (by omega) (by omega))]
      by_cases h4 : (aI P (i : Int)).Party ≤ (aI P ((i - 1 : Nat) : Int)).Party
      · rw [condD h4, bindS rfl, condT rfl, dB_F (fun h => by have := h.rise h0; omega), if_neg (by simp)]
      · rw [condN h4, key _ (fun _ => by omega), wr_succ (by omega)]
    · rw [condN (by omega), key _ (fun h => absurd h h0), wr_succ (by omega)]
  have e := scanB (F := fun n i => ref6_Hall_Pins_l2 k (Ref6Hall.mk v (usL v)) L P n (i : Int)) (len := P.length) (k := k) (fun i => PinG v L P i) (t := ()) (r := false)
    (fun n i hi hG hg => by
      rw [step n i hi hG, dB_T hg, if_pos rfl])
    (fun n i hi hG hg => by
      rw [step n i hi hG, dB_F hg, if_neg (by simp)])
    (fun n _ => by
      rw [ref6_Hall_Pins_l2, condN (by omega)]) hP
  have e : ref6_Hall_Pins_l2 k (Ref6Hall.mk v (usL v)) L P k 0 = _ := e
  rw [bindS e]
  rcases Classical.em (PinOK v L P) with h | h
  · rw [dB_T h, if_pos rfl, elim_go, bindS (ref6_AllParties_eq hL hb)]
    rcases Classical.em (AllMay L) with h' | h'
    · rw [dB_T h', dB_T ⟨h, h'⟩]
    · rw [dB_F h', dB_F (fun x => h' x.2)]
  · rw [dB_F h, if_neg (by simp), elim_rt, dB_F (fun x => h x.1)]
/-- What `In` asks for. -/
abbrev InOK (v : Venue) (L : List Party) (P : List Pin) : Prop := MayV v ∧ PinOK v L P ∧ AllMay L
theorem ref6_MayPins_eq (hv : Small k v) (hk : 1000 < k) (hL : L.length < k) (hP : P.length < k) : ref6_MayPins k v L P = some (dB (InOK v L P)) := by
  unfold ref6_MayPins
  rw [bindS (ref6_NewHall_eq hv)]
  cases hm : mayB v
  · rw [cond_false, optc_none, dB_F (fun h => by rw [mayB_iff.2 h.1] at hm; cases hm)]
  · rw [cond_true, optc_some, bindS (ref6_Hall_Pins_eq hv (mayB_iff.1 hm) hk hL hP)]
    rcases Classical.em (PinOK v L P ∧ AllMay L) with h | h
    · rw [dB_T h, dB_T ⟨mayB_iff.1 hm, h⟩]
    · rw [dB_F h, dB_F (fun x => h x.2)]
theorem plan_In_eq (hv : Small k v) (hk : 1000 < k) (hL : L.length < k) (hP : P.length < k) (ho : ∀ i : Nat, i < P.length → okI (aI P (i : Int)).First) : ∃ S, plan_In k v L P = some (S, dB (InOK v L P)) ∧ (InOK v L P → S = PlanSet.mk (PlaceHall.mk v (usL v)) L (pmN P P.length)) := by
  have hb := hv.b
  unfold plan_In
  rw [bindS (place_In_eq hv)]
  cases hm : mayB v
  · refine ⟨PlanSet.mk (PlaceHall.mk v []) L [], ?_, fun h => absurd (mayB_iff.2 h.1) (by rw [hm]; simp)⟩
    rw [dB_F (fun h => by rw [mayB_iff.2 h.1] at hm; cases hm)]
    rfl
  have hM := mayB_iff.1 hm
  rw [cNT, bindS (party_All_eq hL hb), bindS rfl, cond_true]
  rcases Classical.em (¬ AllMay L) with hA | hA
  · refine ⟨PlanSet.mk (PlaceHall.mk v (usL v)) L [], ?_, fun h => absurd h.2.2 hA⟩
    rw [dB_F hA, cNF, dB_F (fun h => hA h.2.2)]
  have hA := Classical.not_not.1 hA
  rw [dB_T hA, cNT]
  have h3 : ∀ (i : Nat) (w : List (Int × Int)), i < P.length → PinG v L P i ∨ (0 ≤ (aI P (i : Int)).Party ∧ (aI P (i : Int)).Party < L.length ∧ plB v (aI L (aI P (i : Int)).Party) (aI P (i : Int)).First = true) → (∀ j, j < i → PinG v L P j) → plan_In_l3 k L (PlaceHall.mk v (usL v), true) w (aI P (i : Int)) ((P.drop 0).take i) k 0 = some (if dB (∀ j : Nat, j < i → aptB v (aI L (aI P (i : Int)).Party) (aI P (i : Int)).First (aI L (aI P (j : Int)).Party) (aI P (j : Int)).First = true) = true then .go () else .rt (PlanSet.mk (PlaceHall.mk v (usL v)) L w, false)) := fun i w hi h1 hG => by
    have h1 : 0 ≤ (aI P (i : Int)).Party ∧ (aI P (i : Int)).Party < L.length ∧ plB v (aI L (aI P (i : Int)).Party) (aI P (i : Int)).First = true := by
      rcases h1 with h | h
      · exact ⟨h.lo, h.hi, h.pl⟩
      · exact h
    have hl : ((P.drop 0).take i).length = i := by rw [List.drop_zero, List.length_take]; omega
    have hx : ∀ j : Nat, j < i → idx ((P.drop 0).take i) (j : Int) = some (aI P (j : Int)) := fun j hj => by
      refine idx_get (by omega) ?_
      rw [Int.toNat_natCast, List.drop_zero, List.getElem?_take_of_lt hj]
      unfold aI
      rw [Int.toNat_natCast, List.getD_eq_getElem?_getD, List.getElem?_eq_getElem (by omega)]
      rfl
    exact scanB (F := fun n j => plan_In_l3 k L (PlaceHall.mk v (usL v), true) w (aI P (i : Int)) ((P.drop 0).take i) n (j : Int)) (len := i) (k := k) (fun j => aptB v (aI L (aI P (i : Int)).Party) (aI P (i : Int)).First (aI L (aI P (j : Int)).Party) (aI P (j : Int)).First = true) (t := ()) (r := (PlanSet.mk (PlaceHall.mk v (usL v)) L w, false))
      (fun n j hj _ hg => by
        have hGj := hG j hj
        rw [plan_In_l3, condD (by omega), bindS (hx j hj), bindS (idx_aI h1.1 h1.2.1), bindS (idx_aI hGj.lo hGj.hi), bindS (hall_Apart hv hM hk h1.2.2 hGj.pl), hg, cNT, wr_succ (by omega)])
      (fun n j hj _ hg => by
        have hGj := hG j hj
        rw [plan_In_l3, condD (by omega), bindS (hx j hj), bindS (idx_aI h1.1 h1.2.1), bindS (idx_aI hGj.lo hGj.hi), bindS (hall_Apart hv hM hk h1.2.2 hGj.pl), Bool.eq_false_iff.2 hg, cNF])
      (fun n _ => by
        rw [plan_In_l3, condN (by omega)]) (by omega)
  have step : ∀ (n i : Nat) (w : List (Int × Int)), i < P.length → (∀ j, j < i → PinG v L P j) → plan_In_l2 k L P (PlaceHall.mk v (usL v), true) (n + 1) w (i : Int) = if dB (PinG v L P i) = true then plan_In_l2 k L P (PlaceHall.mk v (usL v), true) n (mset w (aI P (i : Int)).Party (aI P (i : Int)).First) ((i + 1 : Nat) : Int) else some (.rt (PlanSet.mk (PlaceHall.mk v (usL v)) L w, false)) := fun n i w hi hG => by
    rw [plan_In_l2, condD (by omega), bindS (idx_aI (by omega) (by omega))]
    have key : (0 < i → (aI P ((i - 1 : Nat) : Int)).Party < (aI P (i : Int)).Party) → ∀ (X : Option (Ex (List (Int × Int)) (PlanSet × Bool))),
        (Option.bind (cond (decide ((aI P (i : Int)).Party < 0)) (some true) (some (decide ((L.length : Int) ≤ (aI P (i : Int)).Party)))) fun o154 => cond o154 (some (Ex.rt (PlanSet.mk (PlaceHall.mk v (usL v)) L w, false))) (Option.bind (idx L (aI P (i : Int)).Party) fun y175 => Option.bind (place_Hall_Seats k (PlaceHall.mk v (usL v)) y175 (aI P (i : Int)).First) fun r177 => cond (!r177.2) (some (Ex.rt (PlanSet.mk (PlaceHall.mk v (usL v)) L w, false))) (Option.bind (slc P 0 (i : Int)) fun y181 => Option.bind (plan_In_l3 k L (PlaceHall.mk v (usL v), true) w (aI P (i : Int)) y181 k 0) fun o204 => Ex.elim o204 (fun v207 => X) (fun rr => some (Ex.rt rr))))) = if dB (PinG v L P i) = true then X else some (.rt (PlanSet.mk (PlaceHall.mk v (usL v)) L w, false)) := fun hr X => by
      by_cases h1 : (aI P (i : Int)).Party < 0
      · rw [condD h1, bindS rfl, condT rfl, dB_F (fun h => by have := h.lo; omega), if_neg (by simp)]
      by_cases h2 : (L.length : Int) ≤ (aI P (i : Int)).Party
      · rw [condN h1, bindS rfl, condD h2, dB_F (fun h => by have := h.hi; omega), if_neg (by simp)]
      obtain ⟨l, el⟩ := hall_Seats2 hv hM hk (aI L (aI P (i : Int)).Party) (ho i hi)
      rw [condN h1, bindS rfl, condN h2, bindS (idx_aI (l := L) (by omega) (by omega)), bindS el]
      cases hp : plB v (aI L (aI P (i : Int)).Party) (aI P (i : Int)).First
      · rw [cNF, dB_F (fun h => by have := h.pl; rw [hp] at this; cases this), if_neg (by simp)]
      · have hs : slc P 0 (i : Int) = some ((P.drop 0).take i) := by
          rw [slc_eq ⟨by omega, by omega, by omega⟩, show (i : Int).toNat - (0 : Int).toNat = i by omega]
          rfl
        rw [cNT, bindS hs, bindS (h3 i w hi (.inr ⟨by omega, by omega, hp⟩) hG)]
        rcases Classical.em (∀ j : Nat, j < i → aptB v (aI L (aI P (i : Int)).Party) (aI P (i : Int)).First (aI L (aI P (j : Int)).Party) (aI P (j : Int)).First = true) with h | h
        · rw [dB_T h, if_pos rfl, elim_go, dB_T ⟨by omega, by omega, hr, hp, h⟩, if_pos rfl]
        · rw [dB_F h, if_neg (by simp), elim_rt, dB_F (fun x => h x.ap), if_neg (by simp)]
    by_cases h0 : 0 < i
    · rw [condD (by omega), wr_pred h0 (by omega), bindS (idx_aI (x := ((i - 1 : Nat) : Int)) (by omega) (by omega))]
      by_cases h4 : (aI P (i : Int)).Party ≤ (aI P ((i - 1 : Nat) : Int)).Party
      · rw [condD h4, bindS rfl, condT rfl, dB_F (fun h => by have := h.rise h0; omega), if_neg (by simp)]
      · rw [condN h4, key (fun _ => by omega), wr_succ (by omega)]
    · rw [condN (by omega), key (fun h => absurd h h0), wr_succ (by omega)]
  have e := scanF0 (F := fun n i => plan_In_l2 k L P (PlaceHall.mk v (usL v), true) n (pmN P i) (i : Int)) (len := P.length) (k := k) (fun i => PinG v L P i) (t := pmN P P.length) (fun i => (PlanSet.mk (PlaceHall.mk v (usL v)) L (pmN P i), false))
    (fun n i hi hG hg => by
      rw [step n i _ hi hG, dB_T hg, if_pos rfl, pmN])
    (fun n i hi hG hg => by
      rw [step n i _ hi hG, dB_F hg, if_neg (by simp)])
    (fun n _ => by
      rw [plan_In_l2, condN (by omega)]) hP
  have e : plan_In_l2 k L P (PlaceHall.mk v (usL v), true) k [] 0 = _ := e
  rw [bindS e]
  rcases Classical.em (PinOK v L P) with h | h
  · rw [if_pos (fstF_all.2 h), elim_go, dB_T ⟨hM, h, hA⟩]
    exact ⟨_, rfl, fun _ => rfl⟩
  · rw [if_neg (fun x => h (fstF_all.1 x)), elim_rt, dB_F (fun x => h x.2.1)]
    exact ⟨_, rfl, fun x => absurd x.2.1 h⟩
/- plans -/
structure OkAt (v : Venue) (L : List Party) (P : List Pin) (r : List Int) (i : Nat) : Prop where
  pin : ∀ f, pinAt P (i : Int) = some f → aI r (i : Int) = f
  pl : ¬ aI r (i : Int) = -1 → plB v (aI L (i : Int)) (aI r (i : Int)) = true
  ap : ¬ aI r (i : Int) = -1 → ∀ j : Nat, j < i → ¬ aI r (j : Int) = -1 → aptB v (aI L (i : Int)) (aI r (i : Int)) (aI L (j : Int)) (aI r (j : Int)) = true
theorem plan_Set_wrong_eq (hv : Small k v) (hM : MayV v) (hk : 1000 < k) {r : List Int} (hr : r.length ≤ L.length) {i : Nat} (hi : i < r.length) (hik : i < k) (hb : r.length ≤ 4294967290) (ho : okI (aI r (i : Int))) (hG : ∀ j, j < i → OkAt v L P r j) : plan_Set_wrong k (PlanSet.mk (PlaceHall.mk v (usL v)) L (pmN P P.length)) r (i : Int) = some (!dB (OkAt v L P r i)) := by
  unfold plan_Set_wrong
  have hpin : ((∀ f, pinAt P (i : Int) = some f → aI r (i : Int) = f) ∧ (cond ((mget (pmN P P.length) (i : Int)).isSome) (Option.bind (idx r (i : Int)) fun y8 => some (!decide (y8 = ((mget (pmN P P.length) (i : Int)).getD 0)))) (some false)) = some false) ∨ ((¬ ∀ f, pinAt P (i : Int) = some f → aI r (i : Int) = f) ∧ (cond ((mget (pmN P P.length) (i : Int)).isSome) (Option.bind (idx r (i : Int)) fun y8 => some (!decide (y8 = ((mget (pmN P P.length) (i : Int)).getD 0)))) (some false)) = some true) := by
    show _ ∨ _
    unfold pinAt
    cases hp : mget (pmN P P.length) (i : Int) with
    | none => exact .inl ⟨fun f h => (by cases h), rfl⟩
    | some f =>
      rw [Option.isSome_some, cond_true, bindS (idx_aI (by omega) (by omega))]
      by_cases h : aI r (i : Int) = f
      · exact .inl ⟨fun f' h' => by cases h'; exact h, by rw [Option.getD_some, decide_eq_true h]; rfl⟩
      · exact .inr ⟨fun h' => h (h' f rfl), by rw [Option.getD_some, decide_eq_false h]; rfl⟩
  rcases hpin with ⟨h1, e1⟩ | ⟨h1, e1⟩
  · rw [bindS e1, cond_false, bindS (idx_aI (by omega) (by omega))]
    by_cases h2 : aI r (i : Int) = -1
    · rw [condD h2, dB_T ⟨h1, fun h => absurd h2 h, fun h => absurd h2 h⟩]
      rfl
    · obtain ⟨l, el⟩ := hall_Seats2 hv hM hk (aI L (i : Int)) ho
      rw [condN h2, bindS (idx_aI (l := L) (by omega) (by omega)), bindS (idx_aI (by omega) (by omega)), bindS el]
      cases hp : plB v (aI L (i : Int)) (aI r (i : Int))
      · rw [cNF, dB_F (fun h => by have := h.pl h2; rw [hp] at this; cases this)]
        rfl
      · have e := scanB (F := fun n j => plan_Set_wrong_l0 k (PlanSet.mk (PlaceHall.mk v (usL v)) L (pmN P P.length)) r (i : Int) n (j : Int)) (len := i) (k := k) (fun j => ¬ aI r (j : Int) = -1 → aptB v (aI L (i : Int)) (aI r (i : Int)) (aI L (j : Int)) (aI r (j : Int)) = true) (t := ()) (r := true)
          (fun n j hj _ hg => by
            rw [plan_Set_wrong_l0, condD (by omega), bindS (idx_aI (by omega) (by omega)), wr_succ (by omega)]
            by_cases hj1 : aI r (j : Int) = -1
            · rw [condNT hj1]
            · rw [condNF hj1, bindS (idx_aI (l := L) (by omega) (by omega)), bindS (idx_aI (by omega) (by omega)), bindS (idx_aI (l := L) (by omega) (by omega)), bindS (idx_aI (by omega) (by omega)), bindS (hall_Apart hv hM hk hp ((hG j hj).pl hj1)), hg hj1, cNT])
          (fun n j hj _ hg => by
            obtain ⟨hj1, hj2⟩ := Classical.not_imp.1 hg
            rw [plan_Set_wrong_l0, condD (by omega), bindS (idx_aI (by omega) (by omega)), condNF hj1, bindS (idx_aI (l := L) (by omega) (by omega)), bindS (idx_aI (by omega) (by omega)), bindS (idx_aI (l := L) (by omega) (by omega)), bindS (idx_aI (by omega) (by omega)), bindS (hall_Apart hv hM hk hp ((hG j hj).pl hj1)), Bool.eq_false_iff.2 hj2, cNF])
          (fun n _ => by
            rw [plan_Set_wrong_l0, condN (by omega)]) hik
        have e : plan_Set_wrong_l0 k (PlanSet.mk (PlaceHall.mk v (usL v)) L (pmN P P.length)) r (i : Int) k 0 = _ := e
        rw [cNT, bindS e]
        rcases Classical.em (∀ j : Nat, j < i → ¬ aI r (j : Int) = -1 → aptB v (aI L (i : Int)) (aI r (i : Int)) (aI L (j : Int)) (aI r (j : Int)) = true) with h | h
        · rw [dB_T h, if_pos rfl, elim_go, dB_T ⟨h1, fun _ => hp, fun _ => h⟩]
          rfl
        · rw [dB_F h, if_neg (by simp), elim_rt, dB_F (fun x => h (x.ap h2))]
          rfl
  · rw [bindS e1, cond_true, dB_F (fun h => h1 h.pin)]
    rfl
/-- The first party that is wrong; -1 if there is none. -/
noncomputable def badI (v : Venue) (L : List Party) (P : List Pin) (r : List Int) : Int := fstF (OkAt v L P r) r.length 0
theorem elim_fst {n : Nat} {g : Nat → Prop} : (Ex.elim (if fstF g n 0 = -1 then (Ex.go () : Ex Unit Int) else .rt (((fstF g n 0).toNat : Nat) : Int)) (fun _ => some (-1 : Int)) (fun rr => some rr)) = some (fstF g n 0) := by
  by_cases h : fstF g n 0 = -1
  · rw [if_pos h, elim_go, h]
  · rw [if_neg h, elim_rt]
    have : ∀ d i : Nat, -1 ≤ fstF g d i := by
      intro d
      induction d with
      | zero => intro i; rw [fstF]; omega
      | succ d ih =>
        intro i
        rw [fstF]
        split
        · exact ih _
        · omega
    have := this n 0
    congr 1
    omega
theorem plan_Set_First_eq (hv : Small k v) (hM : MayV v) (hk : 1000 < k) {r : List Int} (hr : r.length ≤ L.length) (hrk : r.length < k) (ho : ∀ i : Nat, i < r.length → okI (aI r (i : Int))) : plan_Set_First k (PlanSet.mk (PlaceHall.mk v (usL v)) L (pmN P P.length)) r = some (badI v L P r) := by
  have hb := hv.b
  unfold plan_Set_First badI
  have e := scanF0 (F := fun n i => plan_Set_First_l0 k (PlanSet.mk (PlaceHall.mk v (usL v)) L (pmN P P.length)) r n (i : Int)) (len := r.length) (k := k) (OkAt v L P r) (t := ()) (fun i => (i : Int))
    (fun n i hi hG hg => by
      rw [plan_Set_First_l0, condD (by omega), bindS (plan_Set_wrong_eq hv hM hk hr hi (by omega) (by omega) (ho i hi) hG), dB_T hg, wr_succ (by omega)]
      rfl)
    (fun n i hi hG hg => by
      rw [plan_Set_First_l0, condD (by omega), bindS (plan_Set_wrong_eq hv hM hk hr hi (by omega) (by omega) (ho i hi) hG), dB_F hg]
      rfl)
    (fun n _ => by
      rw [plan_Set_First_l0, condN (by omega)]) hrk
  have e : plan_Set_First_l0 k (PlanSet.mk (PlaceHall.mk v (usL v)) L (pmN P P.length)) r k 0 = _ := e
  rw [bindS e, elim_fst]
theorem ref6_Hall_wrong_eq (hv : Small k v) (hM : MayV v) (hk : 1000 < k) (hPk : P.length < k) (hP : RiseP P) {r : List Int} (hr : r.length ≤ L.length) (hrk : r.length < k) : ref6_Hall_wrong k (Ref6Hall.mk v (usL v)) L r P = some (badI v L P r) := by
  have hb := hv.b
  unfold ref6_Hall_wrong badI
  have step : ∀ n i : Nat, i < r.length → ref6_Hall_wrong_l2 k (Ref6Hall.mk v (usL v)) L r P (n + 1) (i : Int) = if dB (OkAt v L P r i) = true then ref6_Hall_wrong_l2 k (Ref6Hall.mk v (usL v)) L r P n ((i + 1 : Nat) : Int) else some (.rt (i : Int)) := fun n i hi => by
    have h3 : ¬ aI r (i : Int) = -1 → ref6_Hall_wrong_l3 k (Ref6Hall.mk v (usL v)) L r (i : Int) k 0 = some (if dB (∀ j : Nat, j < i → ¬ aI r (j : Int) = -1 → aptB v (aI L (i : Int)) (aI r (i : Int)) (aI L (j : Int)) (aI r (j : Int)) = true) = true then .go () else .rt (i : Int)) := fun h2 =>
      scanB (F := fun n j => ref6_Hall_wrong_l3 k (Ref6Hall.mk v (usL v)) L r (i : Int) n (j : Int)) (len := i) (k := k) (fun j => ¬ aI r (j : Int) = -1 → aptB v (aI L (i : Int)) (aI r (i : Int)) (aI L (j : Int)) (aI r (j : Int)) = true) (t := ()) (r := (i : Int))
          (fun n j hj _ hg => by
            rw [ref6_Hall_wrong_l3, condD (by omega), bindS (idx_aI (by omega) (by omega)), condNF h2, bindS (idx_aI (by omega) (by omega)), wr_succ (by omega)]
            by_cases hj1 : aI r (j : Int) = -1
            · rw [condNT hj1]
            · rw [condNF hj1, bindS (idx_aI (l := L) (by omega) (by omega)), bindS (idx_aI (by omega) (by omega)), bindS (idx_aI (l := L) (by omega) (by omega)), bindS (idx_aI (by omega) (by omega)), bindS (rhall_Apart hv hM hk _ _ _ _), hg hj1, cNT])
          (fun n j hj _ hg => by
            obtain ⟨hj1, hj2⟩ := Classical.not_imp.1 hg
            rw [ref6_Hall_wrong_l3, condD (by omega), bindS (idx_aI (by omega) (by omega)), condNF h2, bindS (idx_aI (by omega) (by omega)), condNF hj1, bindS (idx_aI (l := L) (by omega) (by omega)), bindS (idx_aI (by omega) (by omega)), bindS (idx_aI (l := L) (by omega) (by omega)), bindS (idx_aI (by omega) (by omega)), bindS (rhall_Apart hv hM hk _ _ _ _), Bool.eq_false_iff.2 hj2, cNF])
          (fun n _ => by
            rw [ref6_Hall_wrong_l3, condN (by omega)]) (by omega)
    have h3' : aI r (i : Int) = -1 → ref6_Hall_wrong_l3 k (Ref6Hall.mk v (usL v)) L r (i : Int) k 0 = some (.go ()) := fun h2 => by
      have := scanB (F := fun n j => ref6_Hall_wrong_l3 k (Ref6Hall.mk v (usL v)) L r (i : Int) n (j : Int)) (len := i) (k := k) (fun j => True) (t := ()) (r := (i : Int))
          (fun n j hj _ hg => by
            rw [ref6_Hall_wrong_l3, condD (by omega), bindS (idx_aI (by omega) (by omega)), condNT h2, wr_succ (by omega)])
          (fun n j hj _ hg => absurd trivial hg)
          (fun n _ => by
            rw [ref6_Hall_wrong_l3, condN (by omega)]) (by omega)
      rw [dB_T (fun _ _ => trivial), if_pos rfl] at this
      exact this
    have hpin : ((∀ f, pinAt P (i : Int) = some f → aI r (i : Int) = f) ∧ (cond ((pinAt P (i : Int)).isSome) (Option.bind (idx r (i : Int)) fun y8 => some (!decide (y8 = ((pinAt P (i : Int)).getD (-1))))) (some false)) = some false) ∨ ((¬ ∀ f, pinAt P (i : Int) = some f → aI r (i : Int) = f) ∧ (cond ((pinAt P (i : Int)).isSome) (Option.bind (idx r (i : Int)) fun y8 => some (!decide (y8 = ((pinAt P (i : Int)).getD (-1))))) (some false)) = some true) := by
      cases hp : pinAt P (i : Int) with
      | none => exact .inl ⟨fun f h => (by cases h), rfl⟩
      | some f =>
        rw [Option.isSome_some, cond_true, bindS (idx_aI (by omega) (by omega))]
        by_cases h : aI r (i : Int) = f
        · exact .inl ⟨fun f' h' => by cases h'; exact h, by rw [Option.getD_some, decide_eq_true h]; rfl⟩
        · exact .inr ⟨fun h' => h (h' f rfl), by rw [Option.getD_some, decide_eq_false h]; rfl⟩
    rw [ref6_Hall_wrong_l2, condD (by omega), bindS (ref6_pinned_eq hP hPk hb _), bindS (idx_aI (l := r) (by omega) (by omega)), wr_succ (by omega)]
    by_cases h2 : aI r (i : Int) = -1
    · rw [condNT h2]
      rcases hpin with ⟨h1, e1⟩ | ⟨h1, e1⟩
      · rw [bindS e1, cond_false, bindS (h3' h2), elim_go, dB_T ⟨h1, fun h => absurd h2 h, fun h => absurd h2 h⟩, if_pos rfl]
      · rw [bindS e1, cond_true, dB_F (fun h => h1 h.pin), if_neg (by simp)]
    · rw [condNF h2, bindS (idx_aI (l := L) (by omega) (by omega)), bindS (idx_aI (l := r) (by omega) (by omega)), bindS (rhall_May hv hM hk _ _)]
      cases hp : plB v (aI L (i : Int)) (aI r (i : Int))
      · rw [cNF, bindS rfl, cond_true, dB_F (fun h => by have := h.pl h2; rw [hp] at this; cases this), if_neg (by simp)]
      · rw [cNT]
        rcases hpin with ⟨h1, e1⟩ | ⟨h1, e1⟩
        · rw [bindS e1, cond_false, bindS (h3 h2)]
          rcases Classical.em (∀ j : Nat, j < i → ¬ aI r (j : Int) = -1 → aptB v (aI L (i : Int)) (aI r (i : Int)) (aI L (j : Int)) (aI r (j : Int)) = true) with h | h
          · rw [dB_T h, if_pos rfl, elim_go, dB_T ⟨h1, fun _ => hp, fun _ => h⟩, if_pos rfl]
          · rw [dB_F h, if_neg (by simp), elim_rt, dB_F (fun x => h (x.ap h2)), if_neg (by simp)]
        · rw [bindS e1, cond_true, dB_F (fun h => h1 h.pin), if_neg (by simp)]
  have e := scanF0 (F := fun n i => ref6_Hall_wrong_l2 k (Ref6Hall.mk v (usL v)) L r P n (i : Int)) (len := r.length) (k := k) (OkAt v L P r) (t := ()) (fun i => (i : Int))
    (fun n i hi hG hg => by
      rw [step n i hi, dB_T hg, if_pos rfl])
    (fun n i hi hG hg => by
      rw [step n i hi, dB_F hg, if_neg (by simp)])
    (fun n _ => by
      rw [ref6_Hall_wrong_l2, condN (by omega)]) hrk
  have e : ref6_Hall_wrong_l2 k (Ref6Hall.mk v (usL v)) L r P k 0 = _ := e
  rw [bindS e, elim_fst]
open Classical in
/-- What both tell of a plan. -/
noncomputable def wrongV (v : Venue) (L : List Party) (P : List Pin) (r : List Int) : Int := if InOK v L P ∧ r.length = L.length then badI v L P r else L.length
theorem plan_Wrong_eq (hv : Small k v) (hk : 1000 < k) (hL : L.length < k) (hP : P.length < k) (ho : ∀ i : Nat, i < P.length → okI (aI P (i : Int)).First) {r : List Int} (hr : ∀ i : Nat, i < r.length → okI (aI r (i : Int))) : plan_Wrong k v L r P = some (wrongV v L P r) := by
  unfold plan_Wrong wrongV
  obtain ⟨S, e, hS⟩ := plan_In_eq hv hk hL hP ho
  rw [bindS e]
  rcases Classical.em (InOK v L P) with h | h
  · rw [dB_T h, cNT]
    by_cases hl : (r.length : Int) = L.length
    · rw [condNT hl, bindS rfl, elim_go, hS h, if_pos ⟨h, by omega⟩, bindS (plan_Set_First_eq hv h.1 hk (by omega) (by omega) hr)]
    · rw [condNF hl, bindS rfl, elim_rt, if_neg (fun x => hl (by omega))]
  · rw [dB_F h, cNF, bindS rfl, elim_rt, if_neg (fun x => h x.1)]
theorem ref6_Wrong_eq (hv : Small k v) (hk : 1000 < k) (hL : L.length < k) (hP : P.length < k) {r : List Int} : ref6_Wrong k v L r P = some (wrongV v L P r) := by
  unfold ref6_Wrong wrongV
  rw [bindS (ref6_NewHall_eq hv)]
  cases hm : mayB v
  · rw [cond_false, optc_none, if_neg (fun h => by rw [mayB_iff.2 h.1.1] at hm; cases hm)]
  have hM := mayB_iff.1 hm
  rw [cond_true, optc_some, bindS (ref6_Hall_Pins_eq hv hM hk hL hP)]
  rcases Classical.em (PinOK v L P ∧ AllMay L) with h | h
  · rw [dB_T h, cNT]
    by_cases hl : (r.length : Int) = L.length
    · rw [condNT hl, if_pos ⟨⟨hM, h⟩, by omega⟩, bindS (ref6_Hall_wrong_eq hv hM hk hP h.1.rise (by omega) (by omega))]
    · rw [condNF hl, if_neg (fun x => hl (by omega))]
  · rw [dB_F h, cNF, if_neg (fun x => h x.1.2)]
/-- A plan that may be. -/
structure PlanP (v : Venue) (L : List Party) (P : List Pin) (r : List Int) : Prop where
  inn : InOK v L P
  len : r.length = L.length
  at_ : ∀ i, i < r.length → OkAt v L P r i
theorem wrongV_iff {r : List Int} : wrongV v L P r = -1 ↔ PlanP v L P r := by
  unfold wrongV
  split
  · rename_i h
    unfold badI
    rw [fstF_all]
    exact ⟨fun x => ⟨h.1, h.2, x⟩, fun x => x.at_⟩
  · rename_i h
    exact ⟨fun x => by omega, fun x => absurd ⟨x.inn, x.len⟩ h⟩
theorem plan_May_eq (hv : Small k v) (hk : 1000 < k) (hL : L.length < k) (hP : P.length < k) (ho : ∀ i : Nat, i < P.length → okI (aI P (i : Int)).First) {r : List Int} (hr : ∀ i : Nat, i < r.length → okI (aI r (i : Int))) : plan_May k v L r P = some (dB (PlanP v L P r)) := by
  unfold plan_May
  rw [bindS (plan_Wrong_eq hv hk hL hP ho hr)]
  rcases Classical.em (PlanP v L P r) with h | h
  · rw [dB_T h, decide_eq_true (wrongV_iff.2 h)]
  · rw [dB_F h, decide_eq_false (fun x => h (wrongV_iff.1 x))]
theorem ref6_MayPlan_eq (hv : Small k v) (hk : 1000 < k) (hL : L.length < k) (hP : P.length < k) {r : List Int} : ref6_MayPlan k v L r P = some (dB (PlanP v L P r)) := by
  unfold ref6_MayPlan
  rw [bindS (ref6_Wrong_eq hv hk hL hP)]
  rcases Classical.em (PlanP v L P r) with h | h
  · rw [dB_T h, decide_eq_true (wrongV_iff.2 h)]
  · rw [dB_F h, decide_eq_false (fun x => h (wrongV_iff.1 x))]
end
end Go.Px
