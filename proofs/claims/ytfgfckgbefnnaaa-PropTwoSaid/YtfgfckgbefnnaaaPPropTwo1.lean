/- The plain law, in parts: Prop, PropLaws, PropPlays. -/
import Derived.Test.YtfgfckgbefnnaaaPPropTwo0
set_option linter.unusedVariables false
set_option linter.unusedSimpArgs false
namespace Go.Px
open Go Go.Sh
noncomputable def domL (v : Venue) (L : List Party) (P : List Pin) (r : List Int) (i : Nat) : List Int := if i < r.length then (if aI r (i : Int) = -1 then [] else [aI r (i : Int)]) else openL v L P r (i : Int)
noncomputable def lvl (v : Venue) (L : List Party) (P : List Pin) (r : List Int) : List (List Int) := (List.range L.length).map (domL v L P r)
noncomputable def lvsL (v : Venue) (L : List Party) (P : List Pin) (r : List Int) : List (List (List Int)) := (List.range (r.length + 1)).map (fun m => lvl v L P (r.take m))
noncomputable def setOf (v : Venue) (L : List Party) (P : List Pin) : PlanSet := PlanSet.mk (PlaceHall.mk v (usL v)) L (pmN P P.length)
noncomputable def mkP (v : Venue) (L : List Party) (P : List Pin) (r : List Int) : PropProp := PropProp.mk (setOf v L P) (lvsL v L P r) r
theorem map_range_at {α : Type} [Inhabited α] {f : Nat → α} {n i : Nat} (h : i < n) : aI ((List.range n).map f) (i : Int) = f i := by
  unfold aI
  rw [Int.toNat_natCast, List.getD_eq_getElem?_getD, List.getElem?_map, List.getElem?_range h]
  rfl
section
variable {k : Nat} {v : Venue} {L : List Party} {P : List Pin} {r : List Int}
theorem lvl_len : (lvl v L P r).length = L.length := by unfold lvl; simp
theorem lvl_at {i : Nat} (h : i < L.length) : aI (lvl v L P r) (i : Int) = domL v L P r i := map_range_at h
theorem lvsL_len : (lvsL v L P r).length = r.length + 1 := by unfold lvsL; simp
theorem lvsL_at {m : Nat} (h : m ≤ r.length) : aI (lvsL v L P r) (m : Int) = lvl v L P (r.take m) := map_range_at (by omega)
theorem lvsL_snoc {x : Int} : lvsL v L P (r ++ [x]) = lvsL v L P r ++ [lvl v L P (r ++ [x])] := by
  unfold lvsL
  rw [List.length_append, List.length_singleton, List.range_succ, List.map_append]
  congr 1
  · refine List.map_congr_left fun m hm => ?_
    have := List.mem_range.1 hm
    rw [List.take_append_of_le_length (by omega)]
  · simp only [List.map_cons, List.map_nil]
    rw [List.take_of_length_le (by simp)]
theorem domL_pl (hv : Small k v) (hst : StateP v L P r) {i : Nat} (hi : i < L.length) {s : Int} (h : s ∈ domL v L P r i) : plB v (aI L (i : Int)) s = true := by
  unfold domL at h
  split at h
  · rename_i hir
    split at h
    · cases h
    · rename_i hn
      rw [List.mem_singleton] at h
      rw [h]
      exact (hst.at_ i hir).pl hn
  · exact ((openL_mem hv).1 h).1
theorem domL_len {i : Nat} (hn : 1 ≤ v.Seats.length) : (domL v L P r i).length ≤ v.Seats.length := by
  unfold domL
  split
  · split
    · simp
    · simp; omega
  · exact openL_len
theorem prop_apart_eq (hv : Small k v) (hM : MayV v) (hk : 1000 < k) {M : List (Int × Int)} {l : List Int} {i j f : Int} (hi : 0 ≤ i ∧ i < L.length) (hj : 0 ≤ j ∧ j < L.length) (hl : l.length < k) (hs : ∀ s, s ∈ l → plB v (aI L i) s = true) (hf : plB v (aI L j) f = true) :
    prop_apart k (PlanSet.mk (PlaceHall.mk v (usL v)) L M) l i j f = some (l.filter (fun s => aptB v (aI L i) s (aI L j) f)) := by
  have hb := hv.b
  unfold prop_apart
  have e2 := gather0 (f := fun n a q => prop_apart_l0 k (PlanSet.mk (PlaceHall.mk v (usL v)) L M) l i j f n a q) (len := l.length) (c := 0) (fun q : Nat => aptB v (aI L i) (aI l (q : Int)) (aI L j) f) (fun q : Nat => aI l (q : Int))
    (fun n q w hq hw => by
      show prop_apart_l0 k (PlanSet.mk (PlaceHall.mk v (usL v)) L M) l i j f (n + 1) w (q : Int) = prop_apart_l0 k (PlanSet.mk (PlaceHall.mk v (usL v)) L M) l i j f n _ _
      rw [prop_apart_l0]
      simp only
      rw [condD (by omega), bindS (idx_aI (by omega) (by omega)), bindS (idx_aI hi.1 hi.2), bindS (idx_aI hj.1 hj.2), bindS (hall_Apart hv hM hk (hs _ (aI_mem (by omega) (by omega))) hf), wr_succ (by omega)]
      cases aptB v (aI L i) (aI l (q : Int)) (aI L j) f
      · rw [cond_false, if_neg (by simp)]
      · rw [cond_true, gdD (by simp only [List.length_singleton]; omega), if_pos rfl])
    (fun n w => by show prop_apart_l0 k (PlanSet.mk (PlaceHall.mk v (usL v)) L M) l i j f (n + 1) w _ = _; rw [prop_apart_l0, condN (by omega)])
    (k := k) hl [] (by simp)
  have e2 : prop_apart_l0 k (PlanSet.mk (PlaceHall.mk v (usL v)) L M) l i j f k [] 0 = _ := e2
  rw [bindS e2, List.nil_append]
  congr 1
  have h2 : ((List.range l.length).map (fun j : Nat => aI l (j : Int))) = l := by rw [range_map_aI (l := l) (f := fun s => s), List.map_id']
  have h3 : ∀ (p : Int → Bool) (R : List Nat), (R.filter (fun j : Nat => p (aI l (j : Int)))).map (fun j : Nat => aI l (j : Int)) = (R.map (fun j : Nat => aI l (j : Int))).filter p := fun p R => by
    rw [List.filter_map]
    rfl
  rw [h3 (fun s => aptB v (aI L i) s (aI L j) f), h2]
/-- A range over the map that strikes out of one row, in every order. -/
theorem mrun_set {i : Nat} {w : List (List Int)} {good : Int × Int → Int → Bool} {step : Int × Int → List (List Int) → Option (Ex (List (List Int)) (List (List Int)))} {fin : List (List Int) → Option (List (List Int))} (hf : ∀ u, fin u = some u) {A0 : List Int} :
    ∀ (σ : List (Int × Int)) (A : List Int), (∀ s, s ∈ A → s ∈ A0) → A.length ≤ A0.length → (∀ p, p ∈ σ → ∀ B : List Int, (∀ s, s ∈ B → s ∈ A0) → B.length ≤ A0.length → step p (w.set i B) = some (.go (w.set i (B.filter (good p))))) → mrun step fin σ (w.set i A) = some (w.set i (A.filter fun s => σ.all fun p => good p s))
  | [], A, _, _, _ => by
    rw [mrun, hf]
    congr 2
    exact (List.filter_eq_self.2 fun _ _ => rfl).symm
  | p :: σ, A, hA, hl, h => by
    rw [mrun, h p (by simp) A hA hl]
    have hl2 := List.length_filter_le (good p) A
    have ih := mrun_set hf σ (A.filter (good p)) (fun s hs => hA s (List.mem_filter.1 hs).1) (by omega) (fun q hq => h q (by simp [hq]))
    show mrun step fin σ (w.set i (A.filter (good p))) = _
    rw [ih, List.filter_filter]
    congr 2
    refine List.filter_congr fun s _ => ?_
    rw [List.all_cons, Bool.and_comm]
theorem prop_New_l2_eq (hv : Small k v) (hk : 1000 < k) (hI : InOK v L P) (hL : L.length < k) {b : Bool} : prop_New_l2 k L (setOf v L P, b) k (List.replicate L.length []) 0 = some (lvl v L P []) := by
  have hb := hv.b
  have hM := hI.1
  have hN := hv.hs
  have hlen := hI.2.2.1
  have e := fill0 (f := fun n w i => prop_New_l2 k L (setOf v L P, b) n w i) (len := L.length) (domL v L P [])
    (fun n i w hi hw => by
      show prop_New_l2 k L (setOf v L P, b) (n + 1) w (i : Int) = prop_New_l2 k L (setOf v L P, b) n _ _
      have hmg : mget (setOf v L P).Pins (i : Int) = pinAt P (i : Int) := rfl
      have hdom : domL v L P [] i = openL v L P [] (i : Int) := by unfold domL; rw [if_neg (by simp)]
      rw [prop_New_l2]
      simp only
      rw [condD (by omega), hmg, wr_succ (by omega), hdom, Int.toNat_natCast]
      cases hp : pinAt P (i : Int) with
      | some f =>
        obtain ⟨j, hj, h1, h2⟩ := pinAt_some hp
        have hG := hI.2.1 j hj
        have hpl := hG.pl
        rw [h1, h2] at hpl
        have hmem : f ∈ openL v L P [] (i : Int) := (openL_mem hv).2 ⟨hpl, ⟨fun q hq => absurd hq (by simp), fun q hq hne => by
          rcases Nat.lt_trichotomy q j with x | x | x
          · have := hG.ap q x
            rw [h1, h2] at this
            exact this
          · subst x; exact absurd h1 hne
          · have := (hI.2.1 q hq).ap j x
            rw [h1, h2, aptB_symm] at this
            exact this⟩, fun f' e => by rw [hp] at e; cases e; rfl⟩
        have hone : openL v L P [] (i : Int) = [f] := by
          have h := (openL_mem hv).1 hmem
          unfold openL
          rw [filter_one (allV_sorted _) (f := f) ((allV_mem hv).2 hpl) (fun s hs => (dB_iff.1 hs).2 f hp), if_pos (dB_T ⟨h.2.1, h.2.2⟩)]
        rw [Option.isSome_some, cond_true, bindS (idx_aI (l := w) (by omega) (by omega)), Option.getD_some, hone]
      | none =>
        have hall : place_Hall_All k (setOf v L P).H (aI L (i : Int)) = some (allV v (aI L (i : Int))) := by
          rw [show (setOf v L P).H = PlaceHall.mk v (usL v) from rfl, place_Hall_All_eq _ hv.hs hb hk]
          unfold allV
          rw [mayB_iff.2 hM]
          rfl
        have hal := allV_len v (aI L (i : Int))
        rw [Option.isSome_none, cond_false, bindS (idx_aI (l := L) (by omega) (by omega)), bindS hall, bindS (idx_aI (l := w) (by omega) (by omega))]
        have hst : ∀ p, p ∈ pmN P P.length → ∀ B : List Int, (∀ s, s ∈ B → s ∈ allV v (aI L (i : Int))) → B.length ≤ (allV v (aI L (i : Int))).length → prop_New_l3_st k (setOf v L P, b) (i : Int) p (w.set i B) = some (.go (w.set i (B.filter (fun s => aptB v (aI L (i : Int)) s (aI L p.1) p.2)))) := fun p hp' B hB hBl => by
          obtain ⟨j, hj, rfl⟩ := (pmN_mem hI.2.1.rise (Nat.le_refl _)).1 hp'
          have hG := hI.2.1 j hj
          have hg : idx (w.set i B) (i : Int) = some B := by
            rw [idx_aI (by omega) (by rw [List.length_set]; omega), aI_set (by omega), if_pos rfl]
          unfold prop_New_l3_st
          have ea : prop_apart k (setOf v L P) B (i : Int) (aI P (j : Int)).Party (aI P (j : Int)).First = _ := prop_apart_eq (M := pmN P P.length) hv hM hk ⟨by omega, by omega⟩ ⟨hG.lo, hG.hi⟩ (by omega) (fun s hs => (allV_mem hv).1 (hB s hs)) hG.pl
          simp only
          rw [bindS hg, bindS ea, bindS hg, Int.toNat_natCast, List.set_set]
        have hmr : prop_New_l3 k (setOf v L P, b) (i : Int) (setOf v L P).Pins (w.set i (allV v (aI L (i : Int)))) = some (w.set i (openL v L P [] (i : Int))) := by
          unfold prop_New_l3
          refine mrange_of fun τ hτ => ?_
          refine (mrun_set (step := fun p u => prop_New_l3_st k (setOf v L P, b) (i : Int) p u) (fin := fun u => prop_New_l3_fin k (setOf v L P, b) (i : Int) u) (fun u => rfl) τ (allV v (aI L (i : Int))) (fun s h => h) (Nat.le_refl _) (fun p hp' => hst p (hτ.mem_iff.1 hp'))).trans ?_
          congr 2
          unfold openL
          refine List.filter_congr fun s hs => ?_
          rw [Bool.eq_iff_iff, List.all_eq_true, dB_iff]
          constructor
          · intro h
            refine ⟨⟨fun q hq => absurd hq (by simp), fun q hq hne => ?_⟩, fun f e => by rw [hp] at e; cases e⟩
            exact h ((aI P (q : Int)).Party, (aI P (q : Int)).First) (hτ.mem_iff.2 ((pmN_mem hI.2.1.rise (Nat.le_refl _)).2 ⟨q, hq, rfl⟩))
          · intro h p hp'
            obtain ⟨j, hj, rfl⟩ := (pmN_mem hI.2.1.rise (Nat.le_refl _)).1 (hτ.mem_iff.1 hp')
            refine h.1.pins j hj fun e => ?_
            have := pinAt_get hI.2.1.rise hj
            rw [e, hp] at this
            cases this
        rw [bindS hmr])
    (fun n w hw => by show prop_New_l2 k L (setOf v L P, b) (n + 1) w _ = _; rw [prop_New_l2, condN (by omega)])
    (k := k) hL (List.replicate L.length []) (by simp)
  exact e
theorem prop_New_eq (hv : Small k v) (hk : 1000 < k) (hL : L.length < k) (hP : P.length < k) (ho : ∀ i : Nat, i < P.length → okI (aI P (i : Int)).First) : prop_New k v L P = some (if dB (InOK v L P) = true then (some (mkP v L P []), 0) else (none, 1)) := by
  have hb := hv.b
  obtain ⟨S, e, hS⟩ := plan_In_eq hv hk hL hP ho
  unfold prop_New
  rw [bindS e]
  rcases Classical.em (InOK v L P) with h | h
  · have e2 := prop_New_l2_eq (b := true) hv hk h hL
    rw [dB_T h, cNT, hS h, gdD (by omega), Int.toNat_natCast, if_pos rfl]
    have e2 : prop_New_l2 k L (PlanSet.mk (PlaceHall.mk v (usL v)) L (pmN P P.length), true) k (List.replicate L.length []) 0 = _ := e2
    rw [bindS e2]
    rfl
  · rw [dB_F h, cNF, if_neg (by simp)]
theorem prop_now_eq (hr : r.length ≤ 1000) : prop_Prop_now k (mkP v L P r) = some (lvl v L P r) := by
  unfold prop_Prop_now mkP
  simp only
  have hl : (lvsL v L P r).length = r.length + 1 := lvsL_len
  rw [hl, show wr (((r.length + 1 : Nat) : Int) - 1) = (r.length : Int) by rw [wr_id (by omega) (by omega)]; omega, bindS (idx_aI (by omega) (by omega)), lvsL_at (Nat.le_refl _), List.take_length]
theorem prop_has_eq (i : Int) : prop_Prop_has k (mkP v L P r) i = some (decide (0 ≤ i ∧ i < L.length)) := by
  unfold prop_Prop_has
  by_cases h : i < 0
  · rw [condD h, decide_eq_false (by omega)]
  · rw [condN h]
    congr 1
    rw [decide_eq_decide]
    show i < ((setOf v L P).L.length : Int) ↔ _
    have : (setOf v L P).L = L := rfl
    rw [this]
    omega
theorem prop_Depth_eq : prop_Prop_Depth k (mkP v L P r) = some (r.length : Int) := rfl
theorem prop_Pinned_eq {i : Nat} (h : i < L.length) : prop_Prop_Pinned k (mkP v L P r) (i : Int) = some ((pinAt P (i : Int)).isSome) := by
  unfold prop_Prop_Pinned
  rw [bindS (prop_has_eq _), decide_eq_true (by omega), cNT]
  rfl
/-- What planning on strikes out. -/
theorem domL_next (hv : Small k v) {x : Int} {j : Nat} (h : NextP v L P r x) (hj : r.length < j) : domL v L P (r ++ [x]) j = if x = -1 then domL v L P r j else (domL v L P r j).filter (fun s => aptB v (aI L (j : Int)) s (aI L (r.length : Int)) x) := by
  have hl : (r ++ [x]).length = r.length + 1 := by simp
  have d1 : domL v L P (r ++ [x]) j = openL v L P (r ++ [x]) (j : Int) := by unfold domL; rw [if_neg (by omega)]
  have d2 : domL v L P r j = openL v L P r (j : Int) := by unfold domL; rw [if_neg (by omega)]
  rw [d1, d2]
  have hfree : ∀ s, FreeP v L P (r ++ [x]) (j : Int) s ↔ FreeP v L P r (j : Int) s ∧ (¬ x = -1 → aptB v (aI L (j : Int)) s (aI L (r.length : Int)) x = true) := fun s => by
    constructor
    · intro hf
      refine ⟨⟨fun q hq hn => ?_, hf.pins⟩, fun hn => ?_⟩
      · have := hf.plan q (by omega)
        rw [aI_lt hq] at this
        exact this hn
      · have := hf.plan r.length (by omega)
        rw [aI_last rfl] at this
        exact this hn
    · rintro ⟨a, b⟩
      refine ⟨fun q hq hn => ?_, a.pins⟩
      by_cases hqr : q < r.length
      · rw [aI_lt hqr] at hn ⊢
        exact a.plan q hqr hn
      · obtain rfl : q = r.length := by omega
        rw [aI_last rfl] at hn ⊢
        exact b hn
  unfold openL
  split
  · rename_i hx
    refine List.filter_congr fun s _ => ?_
    rw [Bool.eq_iff_iff, dB_iff, dB_iff, hfree s]
    exact ⟨fun a => ⟨a.1.1, a.2⟩, fun a => ⟨⟨a.1, fun hn => absurd hx hn⟩, a.2⟩⟩
  · rename_i hx
    rw [List.filter_filter]
    refine List.filter_congr fun s _ => ?_
    rw [Bool.eq_iff_iff, Bool.and_eq_true, dB_iff, dB_iff, hfree s]
    exact ⟨fun a => ⟨a.1.2 hx, a.1.1, a.2⟩, fun a => ⟨⟨a.2.1, fun _ => a.1⟩, a.2.2⟩⟩
theorem NextP.state (hv : Small k v) {x : Int} (h : NextP v L P r x) : StateP v L P (r ++ [x]) := by
  have hl : (r ++ [x]).length = r.length + 1 := by simp
  refine ⟨h.1.inn, by have := h.2.1; omega, fun i hi => ?_⟩
  by_cases hir : i < r.length
  · have hG := h.1.at_ i hir
    refine ⟨fun f hf => by rw [aI_lt hir]; exact hG.pin f hf, fun hn => ?_, fun hn j hj hnj => ?_⟩
    · rw [aI_lt hir] at hn ⊢
      exact hG.pl hn
    · rw [aI_lt hir] at hn ⊢
      rw [aI_lt (by omega)] at hnj ⊢
      exact hG.ap hn j hj hnj
  · obtain rfl : i = r.length := by omega
    rcases h.2.2 with ⟨hx, hp⟩ | ho
    · refine ⟨fun f hf => (by rw [hp] at hf; cases hf), fun hn => ?_, fun hn => ?_⟩
      · rw [aI_last rfl] at hn; exact absurd hx hn
      · rw [aI_last rfl] at hn; exact absurd hx hn
    · obtain ⟨h1, h2, h3⟩ := (openL_mem hv).1 ho
      refine ⟨fun f hf => by rw [aI_last rfl]; exact h3 f hf, fun hn => ?_, fun hn j hj hnj => ?_⟩
      · rw [aI_last rfl]; exact h1
      · rw [aI_last rfl]
        rw [aI_lt hj] at hnj ⊢
        exact h2.plan j hj hnj
theorem domL_lt {x : Int} {i : Nat} (h : i < r.length) : domL v L P (r ++ [x]) i = domL v L P r i := by
  have hl : (r ++ [x]).length = r.length + 1 := by simp
  unfold domL
  rw [if_pos (by omega), if_pos h, aI_lt h]
theorem domL_last {x : Int} : domL v L P (r ++ [x]) r.length = if x = -1 then [] else [x] := by
  have hl : (r ++ [x]).length = r.length + 1 := by simp
  unfold domL
  rw [if_pos (by omega), aI_last rfl]
noncomputable def midL (v : Venue) (L : List Party) (P : List Pin) (r : List Int) (x : Int) (j : Nat) : List (List Int) := (List.range L.length).map (fun i => if i < j then domL v L P (r ++ [x]) i else domL v L P r i)
theorem midL_len {x : Int} {j : Nat} : (midL v L P r x j).length = L.length := by unfold midL; simp
theorem midL_at {x : Int} {j i : Nat} (h : i < L.length) : aI (midL v L P r x j) (i : Int) = if i < j then domL v L P (r ++ [x]) i else domL v L P r i := map_range_at h
theorem push_l0 (hv : Small k v) (hk : 1000 < k) {x : Int} (h : NextP v L P r x) (hx : ¬ x = -1) : ∀ (d n j : Nat), j + d = L.length → d < n → r.length < j → prop_Prop_Push_l0 k (mkP v L P r) x (r.length : Int) n (midL v L P r x j) (j : Int) = some (lvl v L P (r ++ [x]))
  | d, 0, j, _, hd, _ => absurd hd (by omega)
  | 0, n + 1, j, hj, _, _ => by
    have hml : (midL v L P r x j).length = L.length := midL_len
    rw [prop_Prop_Push_l0, condN (by omega)]
    congr 1
    refine aI_ext (by rw [midL_len, lvl_len]) fun i hi => ?_
    rw [midL_len] at hi
    rw [midL_at hi, lvl_at hi, if_pos (by omega)]
  | d + 1, n + 1, j, hj, hd, hr => by
    have hb := hv.b
    have hN := hv.hs
    have hst := h.1
    have hlen := hst.inn.2.2.1
    have hml : (midL v L P r x j).length = L.length := midL_len
    have hmj : aI (midL v L P r x j) (j : Int) = domL v L P r j := by rw [midL_at (by omega), if_neg (by omega)]
    have hdl := domL_len (v := v) (L := L) (P := P) (r := r) (i := j) hst.inn.1.n0
    have hxo : x ∈ openL v L P r (r.length : Int) := by
      rcases h.2.2 with y | y
      · exact absurd y.1 hx
      · exact y
    have hxpl := ((openL_mem hv).1 hxo).1
    have ea : prop_apart k (mkP v L P r).s (domL v L P r j) (j : Int) (r.length : Int) x = _ := prop_apart_eq (M := pmN P P.length) (L := L) hv hst.inn.1 hk ⟨by omega, by omega⟩ ⟨by omega, by omega⟩ (by omega) (fun s hs => domL_pl hv hst (by omega) hs) hxpl
    have hn := domL_next (j := j) hv h hr
    rw [if_neg hx] at hn
    rw [← hn] at ea
    rw [prop_Prop_Push_l0, condD (by omega), bindS (idx_aI (by omega) (by omega)), hmj, bindS ea, bindS (idx_aI (by omega) (by omega)), Int.toNat_natCast, wr_succ (by omega)]
    have e2 : (midL v L P r x j).set j (domL v L P (r ++ [x]) j) = midL v L P r x (j + 1) := by
      refine aI_ext (by rw [List.length_set, midL_len, midL_len]) fun i hi => ?_
      rw [List.length_set, midL_len] at hi
      rw [aI_set (by omega), midL_at hi, midL_at hi]
      by_cases hij : i = j
      · subst hij
        rw [if_pos rfl, if_pos (by omega)]
      · rw [if_neg hij]
        by_cases hlt : i < j
        · rw [if_pos hlt, if_pos (by omega)]
        · rw [if_neg hlt, if_neg (by omega)]
    rw [e2]
    exact push_l0 hv hk h hx d n (j + 1) (by omega) (by omega) (by omega)
theorem prop_Push_eq (hv : Small k v) (hk : 1000 < k) (hst : StateP v L P r) (x : Int) : prop_Prop_Push k (mkP v L P r) x = some (if dB (NextP v L P r x) = true then (true, lvsL v L P (r ++ [x]), r ++ [x]) else (false, lvsL v L P r, r)) := by
  have hb := hv.b
  have hM := hst.inn.1
  have hN := hv.hs
  have hlen := hst.inn.2.2.1
  have hrl := hst.len
  have hlv : (mkP v L P r).levels.length = r.length + 1 := lvsL_len
  unfold prop_Prop_Push
  rw [bindS prop_Depth_eq, bindS (prop_has_eq _)]
  by_cases hnn : ¬ r.length < L.length
  · rw [decide_eq_false (by omega), cNF, bindS rfl, cond_true, dB_F (fun y => hnn y.2.1), if_neg (by simp)]
    rfl
  have hn := Classical.not_not.1 hnn
  have hlvn : (lvl v L P r).length = L.length := lvl_len
  have hdn : aI (lvl v L P r) (r.length : Int) = openL v L P r (r.length : Int) := by
    rw [lvl_at hn]
    unfold domL
    rw [if_neg (Nat.lt_irrefl _)]
  have hol := openL_len (v := v) (L := L) (P := P) (r := r) (i := (r.length : Int))
  rw [decide_eq_true ⟨by omega, by omega⟩, cNT, bindS (prop_Pinned_eq hn), bindS (prop_now_eq (by omega)), bindS (idx_aI (l := lvl v L P r) (by omega) (by omega)), hdn, bindS (slices_Contains_int_eq k _ x (by omega) (by omega))]
  have hcl : slices_Clone_Lint k (lvl v L P r) = some (lvl v L P r) := by
    unfold slices_Clone_Lint
    rw [gdD (by simp only [List.length_nil]; omega), List.nil_append]
  have hset : (lvl v L P r).set r.length [] = (lvl v L P r).set r.length [] := rfl
  by_cases h1 : x = -1
  · rw [condD h1]
    cases hp : pinAt P (r.length : Int) with
    | some f =>
      rw [Option.isSome_some, cond_true, bindS rfl, cond_true, dB_F (fun y => by
        rcases y.2.2 with ⟨_, q⟩ | q
        · rw [hp] at q; cases q
        · have := openL_ge hv q; omega), if_neg (by simp)]
      rfl
    | none =>
      have hnx : NextP v L P r x := ⟨hst, hn, .inl ⟨h1, hp⟩⟩
      have e2 : (lvl v L P r).set r.length [] = lvl v L P (r ++ [x]) := by
        refine aI_ext (by rw [List.length_set, lvl_len, lvl_len]) fun i hi => ?_
        rw [List.length_set, lvl_len] at hi
        rw [aI_set (by omega), lvl_at hi, lvl_at hi]
        by_cases hij : i = r.length
        · rw [if_pos hij, hij, domL_last, if_pos h1]
        · rw [if_neg hij]
          by_cases hlt : i < r.length
          · rw [domL_lt hlt]
          · rw [domL_next hv hnx (by omega), if_pos h1]
      rw [Option.isSome_none, cond_false, condNT h1, bindS rfl, cond_false, bindS (prop_now_eq (by omega)), bindS hcl, bindS (idx_aI (l := lvl v L P r) (by omega) (by omega)), condNT h1, Int.toNat_natCast, e2, gdD (by simp only [List.length_singleton]; omega), gdD (by show r.length + _ ≤ _; simp only [List.length_singleton]; omega), dB_T hnx, if_pos rfl, lvsL_snoc]
      rfl
  · rw [condN h1, condNF h1, bindS rfl]
    by_cases h2 : x ∈ openL v L P r (r.length : Int)
    · have hnx : NextP v L P r x := ⟨hst, hn, .inr h2⟩
      have e2 : ((lvl v L P r).set r.length []).set r.length [x] = midL v L P r x (r.length + 1) := by
        rw [List.set_set]
        refine aI_ext (by rw [List.length_set, lvl_len, midL_len]) fun i hi => ?_
        rw [List.length_set, lvl_len] at hi
        rw [aI_set (by omega), lvl_at hi, midL_at hi]
        by_cases hij : i = r.length
        · rw [if_pos hij, if_pos (by omega), hij, domL_last, if_neg h1]
        · rw [if_neg hij]
          by_cases hlt : i < r.length
          · rw [if_pos (by omega), domL_lt hlt]
          · rw [if_neg (by omega)]
      have el := push_l0 hv hk hnx h1 (L.length - (r.length + 1)) k (r.length + 1) (by omega) (by omega) (by omega)
      rw [decide_eq_true h2, Bool.not_true, cond_false, bindS (prop_now_eq (by omega)), bindS hcl, bindS (idx_aI (l := lvl v L P r) (by omega) (by omega)), condNF h1, Int.toNat_natCast, bindS (idx_aI (l := (lvl v L P r).set r.length []) (by omega) (by rw [List.length_set]; omega)), e2, wr_succ (by omega), bindS el, gdD (by simp only [List.length_singleton]; omega), gdD (by show r.length + _ ≤ _; simp only [List.length_singleton]; omega), dB_T hnx, if_pos rfl, lvsL_snoc]
      rfl
    · rw [decide_eq_false h2, Bool.not_false, cond_true, dB_F (fun y => by
        rcases y.2.2 with q | q
        · exact h1 q.1
        · exact h2 q), if_neg (by simp)]
      rfl
end
end Go.Px

set_option linter.unusedVariables false
set_option linter.unusedSimpArgs false
namespace Go.Px
open Go Go.Sh
theorem law14_told_eq : law14_told 20000 = some true := by decide +kernel
section
variable {k : Nat} {v : Venue} {L : List Party} {P : List Pin} {r : List Int}
theorem domL_pos {m : Nat} (hv : Small k v) (hst : StateP v L P r) : (0 < (domL v L P r m).length) ↔ ((m < r.length ∧ 0 ≤ aI r (m : Int)) ∨ (r.length ≤ m ∧ 0 < (openL v L P r (m : Int)).length)) := by
  unfold domL
  by_cases h : m < r.length
  · rw [if_pos h]
    by_cases h1 : aI r (m : Int) = -1
    · rw [if_pos h1]
      constructor
      · intro x; exact absurd x (by simp)
      · rintro (x | x)
        · omega
        · omega
    · rw [if_neg h1]
      have := hst.ge hv h h1
      exact ⟨fun _ => .inl ⟨h, this⟩, fun _ => by simp⟩
  · rw [if_neg h]
    exact ⟨fun x => .inr ⟨by omega, x⟩, fun x => by rcases x with x | x; exact absurd x.1 h; exact x.2⟩
theorem prop_Most_l0_eq (hv : Small k v) (hst : StateP v L P r) : ∀ (d n i : Nat), i + d = L.length → d < n → prop_Prop_Most_l0 k (mkP v L P r) (lvl v L P r) n (mostN v L P r i) (i : Int) = some (mostN v L P r L.length)
  | d, 0, i, _, h => absurd h (by omega)
  | 0, n + 1, i, hi, _ => by
    have hl : (lvl v L P r).length = L.length := lvl_len
    rw [prop_Prop_Most_l0, condN (by omega), show i = L.length by omega]
  | d + 1, n + 1, i, hi, hd => by
    have hl : (lvl v L P r).length = L.length := lvl_len
    have hA := hst.inn.2.2
    have h1 := hA.1
    have h2 := hA.2 i (by omega)
    have h3 := mostN_bd (v := v) (P := P) (r := r) hA (n := i) (by omega)
    have ih := prop_Most_l0_eq hv hst d n (i + 1) (by omega) (by omega)
    have hx : idx (mkP v L P r).s.L (i : Int) = some (aI L (i : Int)) := idx_aI (l := L) (by omega) (by omega)
    rw [mostN] at ih
    rw [prop_Prop_Most_l0, condD (by omega), bindS (idx_aI (by omega) (by omega)), lvl_at (by omega), wr_succ (by omega)]
    by_cases h : 0 < (domL v L P r i).length
    · rw [if_pos ((domL_pos hv hst).1 h)] at ih
      rw [condD (by omega), bindS hx, wr_id (by omega) (by omega), ih]
    · rw [if_neg (fun x => h ((domL_pos hv hst).2 x)), Int.add_zero] at ih
      rw [condN (by omega), ih]
theorem prop_Most_eq (hv : Small k v) (hk : 1000 < k) (hst : StateP v L P r) : prop_Prop_Most k (mkP v L P r) = some (mostN v L P r L.length) := by
  have h1 := hst.inn.2.2.1
  have h2 := hst.len
  unfold prop_Prop_Most
  have e := prop_Most_l0_eq hv hst L.length k 0 (by omega) (by omega)
  have e : prop_Prop_Most_l0 k (mkP v L P r) (lvl v L P r) k 0 0 = _ := e
  rw [bindS (prop_now_eq (by omega)), bindS e]
/-- What was taken out. -/
noncomputable def trN (v : Venue) (L : List Party) (P : List Pin) (r : List Int) : Nat → Int
  | 0 => 0
  | n + 1 => trN v L P r n + if r.length ≤ n then ((domL v L P [] n).length : Int) - ((domL v L P r n).length : Int) else 0
theorem trN_bd (hM : MayV v) : ∀ n : Nat, -4096 * (n : Int) ≤ trN v L P r n ∧ trN v L P r n ≤ 4096 * (n : Int)
  | 0 => by rw [trN]; omega
  | n + 1 => by
    have := trN_bd hM n
    have := hM.n0
    have := hM.n1
    have a := domL_len (v := v) (L := L) (P := P) (r := []) (i := n) hM.n0
    have b := domL_len (v := v) (L := L) (P := P) (r := r) (i := n) hM.n0
    rw [trN]
    split <;> omega
theorem trN_low : ∀ n : Nat, n ≤ r.length → trN v L P r n = 0
  | 0, _ => rfl
  | n + 1, h => by rw [trN, trN_low n (by omega), if_neg (by omega)]; rfl
theorem prop_Trail_l0_eq (hst : StateP v L P r) : ∀ (d n i : Nat), i + d = L.length → d < n → r.length ≤ i → prop_Prop_Trail_l0 k (mkP v L P r) n (trN v L P r i) (i : Int) = some (trN v L P r L.length)
  | d, 0, i, _, h, _ => absurd h (by omega)
  | 0, n + 1, i, hi, _, _ => by
    rw [prop_Prop_Trail_l0, condN (by show ¬ (i : Int) < (L.length : Int); omega), show i = L.length by omega]
  | d + 1, n + 1, i, hi, hd, hr => by
    have h1 := hst.inn.2.2.1
    have h2 := hst.len
    have hM := hst.inn.1
    have hn1 := hM.n1
    have hl0 : (lvl v L P []).length = L.length := lvl_len
    have hl : (lvl v L P r).length = L.length := lvl_len
    have hlv : (mkP v L P r).levels.length = r.length + 1 := lvsL_len
    have hz : aI (mkP v L P r).levels ((0 : Nat) : Int) = lvl v L P [] := lvsL_at (r := r) (m := 0) (by omega)
    have hb := trN_bd (L := L) (P := P) (r := r) hM i
    have a := domL_len (v := v) (L := L) (P := P) (r := []) (i := i) hM.n0
    have b := domL_len (v := v) (L := L) (P := P) (r := r) (i := i) hM.n0
    have ih := prop_Trail_l0_eq hst d n (i + 1) (by omega) (by omega) (by omega)
    rw [trN, if_pos hr] at ih
    have hx0 : idx (mkP v L P r).levels 0 = some (lvl v L P []) := by rw [idx_aI (by omega) (by omega)]; exact congrArg some hz
    rw [prop_Prop_Trail_l0, condD (by show (i : Int) < (L.length : Int); omega), bindS hx0, bindS (idx_aI (by omega) (by omega)), bindS (prop_now_eq (by omega)), bindS (idx_aI (by omega) (by omega)), lvl_at (by omega), lvl_at (by omega), wr_succ (by omega), wr_id (x := ((domL v L P [] i).length : Int) - ((domL v L P r i).length : Int)) (by omega) (by omega), wr_id (x := trN v L P r i + _) (by omega) (by omega), ih]
theorem prop_Trail_eq (hk : 1000 < k) (hst : StateP v L P r) : prop_Prop_Trail k (mkP v L P r) = some (trN v L P r L.length) := by
  have h1 := hst.inn.2.2.1
  have h2 := hst.len
  unfold prop_Prop_Trail
  have e := prop_Trail_l0_eq (k := k) hst (L.length - r.length) k r.length (by omega) (by omega) (Nat.le_refl _)
  rw [trN_low r.length (Nat.le_refl _)] at e
  rw [bindS prop_Depth_eq, bindS e]
theorem prop_Plan_eq (hr : r.length ≤ 1000) : prop_Prop_Plan k (mkP v L P r) = some r := by
  unfold prop_Prop_Plan slices_Clone_Plan_int
  have : (mkP v L P r).p = r := rfl
  rw [this, gdD (by simp only [List.length_nil]; omega), List.nil_append]
  rfl
theorem StateP.take (h : StateP v L P r) (n : Nat) : StateP v L P (r.take n) := by
  have hl := h.len
  refine ⟨h.inn, by rw [List.length_take]; omega, fun i hi => ?_⟩
  rw [List.length_take] at hi
  have hG := h.at_ i (by omega)
  refine ⟨fun f hf => by rw [aI_take (by omega) (by omega)]; exact hG.pin f hf, fun hn => ?_, fun hn j hj hnj => ?_⟩
  · rw [aI_take (by omega) (by omega)] at hn ⊢
    exact hG.pl hn
  · rw [aI_take (by omega) (by omega)] at hn hnj ⊢
    rw [aI_take (by omega) (by omega)]
    exact hG.ap hn j hj hnj
theorem StateP_nil (hI : InOK v L P) : StateP v L P [] := ⟨hI, by simp, fun i hi => absurd hi (by simp)⟩
end
end Go.Px

set_option linter.unusedVariables false
set_option linter.unusedSimpArgs false
namespace Go.Px
open Go Go.Sh
section
variable {k : Nat} {v : Venue} {L : List Party} {P : List Pin} {r : List Int}
/-- A try of the index. -/
theorem two_l0 (h : BCtx v L P) {a3 : List Int} : ∀ (d n i : Nat) (r : List Int), i + d = 8 → d < n → StateP v L P r →
    ∃ r', law14_PropTwo_l0 20000 a3 (v, L) (mkP v L P []) (mkP v L P []) n (lvsL v L P r) r (lvsL v L P r) r (i : Int) = some (.go (lvsL v L P r', r')) ∧ StateP v L P r'
  | d, 0, i, r, _, hd, _ => absurd hd (by omega)
  | 0, n + 1, i, r, hi, _, hst => by
    have hc : (cond (decide ((i : Int) < (a3.length : Int))) (some (decide ((i : Int) < 8))) (some false)) = some false := by
      by_cases h1 : (i : Int) < (a3.length : Int)
      · rw [condD h1, decide_eq_false (by omega)]
      · rw [condN h1]
    rw [law14_PropTwo_l0, bindS hc, cond_false]
    exact ⟨r, rfl, hst⟩
  | d + 1, n + 1, i, r, hi, hd, hst => by
    have hv := h.small
    have h4 := h.pr.l4
    have hn := h.pr.n1
    have hrl := hst.len
    by_cases h1 : (i : Int) < (a3.length : Int)
    · have hc : (cond (decide ((i : Int) < (a3.length : Int))) (some (decide ((i : Int) < 8))) (some false)) = some true := by rw [condD h1, decide_eq_true (by omega)]
      have hw2 : IntKind.u64.wrap (wr ((v.Seats.length : Int) + 1)) = (v.Seats.length : Int) + 1 := by rw [wr_id (by omega) (by omega), wu_id (by omega) (by omega)]
      rw [law14_PropTwo_l0, bindS hc, cond_true, bindS (idx_aI (by omega) h1)]
      dsimp only
      rw [gdD (by rw [hw2]; omega)]
      generalize wr (wr ((IntKind.u64.wrap (aI a3 (i : Int))).tmod (IntKind.u64.wrap (wr ((v.Seats.length : Int) + 1)))) - 1) = x
      have eP : prop_Prop_Push 20000 (PropProp.mk (mkP v L P []).s (lvsL v L P r) r) x = _ := prop_Push_eq (k := 20000) (r := r) hv (by omega) hst x
      have eD : ∀ r : List Int, prop_Prop_Depth 20000 (PropProp.mk (mkP v L P []).s (lvsL v L P r) r) = some (r.length : Int) := fun r => rfl
      have rest : ∀ (r2 : List Int) (X : Option (Ex ((List (List (List Int))) × (List Int)) Bool)), StateP v L P r2 → (Option.bind (prop_Prop_Depth 20000 (PropProp.mk (mkP v L P []).s (lvsL v L P r2) r2)) fun r210 => Option.bind (prop_Prop_Depth 20000 (PropProp.mk (mkP v L P []).s (lvsL v L P r2) r2)) fun r212 => cond (!decide (r210 = r212)) (some (Ex.rt false)) (Option.bind (prop_Prop_Most 20000 (PropProp.mk (mkP v L P []).s (lvsL v L P r2) r2)) fun r216 => Option.bind (prop_Prop_Most 20000 (PropProp.mk (mkP v L P []).s (lvsL v L P r2) r2)) fun r218 => cond (!decide (r216 = r218)) (some (Ex.rt false)) (Option.bind (prop_Prop_Trail 20000 (PropProp.mk (mkP v L P []).s (lvsL v L P r2) r2)) fun r222 => Option.bind (prop_Prop_Trail 20000 (PropProp.mk (mkP v L P []).s (lvsL v L P r2) r2)) fun r224 => cond (!decide (r222 = r224)) (some (Ex.rt false)) (Option.bind (prop_Prop_Plan 20000 (PropProp.mk (mkP v L P []).s (lvsL v L P r2) r2)) fun r228 => Option.bind (prop_Prop_Plan 20000 (PropProp.mk (mkP v L P []).s (lvsL v L P r2) r2)) fun r230 => Option.bind (ref6_SameInts 20000 r228 r230) fun r232 => cond (!r232) (some (Ex.rt false)) X)))) = X := fun r2 X hst2 => by
        have hl2 := hst2.len
        have eM : prop_Prop_Most 20000 (PropProp.mk (mkP v L P []).s (lvsL v L P r2) r2) = _ := prop_Most_eq (k := 20000) (r := r2) hv (by omega) hst2
        have eT : prop_Prop_Trail 20000 (PropProp.mk (mkP v L P []).s (lvsL v L P r2) r2) = _ := prop_Trail_eq (k := 20000) (r := r2) (by omega) hst2
        have ePl : prop_Prop_Plan 20000 (PropProp.mk (mkP v L P []).s (lvsL v L P r2) r2) = _ := prop_Plan_eq (k := 20000) (v := v) (L := L) (P := P) (r := r2) (by omega)
        rw [bindS (eD r2), bindS (eD r2), condNT rfl, bindS eM, bindS eM, condNT rfl, bindS eT, bindS eT, condNT rfl, bindS ePl, bindS ePl, bindS (sameInts_refl _ _ (by omega) (by omega)), cNT]
      rw [bindS eP]
      rcases Classical.em (NextP v L P r x) with hx | hx
      · have hst' := hx.state hv
        have hl : (r ++ [x]).length = r.length + 1 := by simp
        rw [dB_T hx, if_pos rfl] at eP ⊢
        dsimp only
        rw [cond_true, bindS (eD r), bindS (eD (r ++ [x])), hl, condNT (by rw [wr_id (by omega) (by omega)]; omega), bindS eP]
        dsimp only
        rw [cNT, bindS rfl, elim_go]
        dsimp only
        rw [rest (r ++ [x]) _ hst', wr_succ (by omega)]
        exact two_l0 h d n (i + 1) (r ++ [x]) (by omega) (by omega) hst'
      · rw [dB_F hx, if_neg (by simp)]
        dsimp only
        rw [cond_false, bindS rfl, elim_go]
        dsimp only
        rw [rest r _ hst, wr_succ (by omega)]
        exact two_l0 h d n (i + 1) r (by omega) (by omega) hst
    · have hc : (cond (decide ((i : Int) < (a3.length : Int))) (some (decide ((i : Int) < 8))) (some false)) = some false := by rw [condN h1]
      rw [law14_PropTwo_l0, bindS hc, cond_false]
      exact ⟨r, rfl, hst⟩
theorem PropTwo_true (a0 : List Int) (h0 : okLI a0) (a1 : List Int) (h1 : okLI a1) (a2 : Int) (h2 : okI a2) (a3 : List Int) (h3 : okLI a3) : ∃ k, law14_PropTwo k a0 a1 a2 a3 = some true := by
  refine ⟨20000, ?_⟩
  obtain ⟨v, L, e, hp⟩ := law12_Small_eq (k := 20000) a0 a1 (by omega)
  have hv := hp.small (k := 20000) (by omega) (by omega)
  obtain ⟨P, e3, hPl, hP⟩ := law12_Pins_eq hp (k := 20000) (by omega) (by omega) a2
  have hc : BCtx v L P := ⟨hp, hPl, hP⟩
  have h4 := hp.l4
  have hn := hp.n1
  have hI := hp.inn hP
  have hst := StateP_nil hI
  have eN := prop_New_eq (k := 20000) (L := L) (P := P) hv (by omega) (by omega) (by omega) (pins_ok hv hP)
  rw [dB_T hI, if_pos rfl] at eN
  obtain ⟨r, el, hr⟩ := two_l0 hc (a3 := a3) 8 20000 0 [] (by omega) (by omega) hst
  have el : law14_PropTwo_l0 20000 a3 (v, L) (mkP v L P []) (mkP v L P []) 20000 (mkP v L P []).levels (mkP v L P []).p (mkP v L P []).levels (mkP v L P []).p 0 = _ := el
  have hrl := hr.len
  unfold law14_PropTwo
  rw [bindS e]
  dsimp only
  rw [bindS e3, bindS eN]
  dsimp only
  rw [optc_some, bindS eN]
  dsimp only
  rw [optc_some, condNT rfl, condNT rfl, bindS rfl, cond_false, bindS el, elim_go, bindS law14_told_eq, cond_true]
  have ePl : prop_Prop_Plan 20000 (PropProp.mk (mkP v L P []).s (lvsL v L P r) r) = _ := prop_Plan_eq (k := 20000) (v := v) (L := L) (P := P) (r := r) (by omega)
  have eD : prop_Prop_Depth 20000 (PropProp.mk (mkP v L P []).s (lvsL v L P r) r) = some (r.length : Int) := rfl
  dsimp only
  rw [bindS ePl, bindS eD, decide_eq_true rfl]
/- step by step -/
end
end Go.Px
