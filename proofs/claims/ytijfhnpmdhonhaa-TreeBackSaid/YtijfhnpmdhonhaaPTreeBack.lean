/- The law TreeBack over the plain functions. -/
import Derived.Test.YtijfhnpmdhonhaaPTree
set_option linter.unusedVariables false
set_option linter.unusedSimpArgs false
namespace Go.Px
open Go Go.Sh
theorem drop_cons_ne {α : Type} [DecidableEq α] {a b : List α} {i : Nat} (h1 : i < a.length) (h2 : i < b.length) : (a.drop i = b.drop i) ↔ (a[i] = b[i] ∧ a.drop (i + 1) = b.drop (i + 1)) := by
  rw [List.drop_eq_getElem_cons h1, List.drop_eq_getElem_cons h2, List.cons.injEq]
theorem slices_Equal_bool_l0_eq (k : Nat) (a b : List Bool) (hl : a.length = b.length) (hb : a.length ≤ 4294967295) : ∀ (d n i : Nat), i + d = a.length → d < n →
    slices_Equal_bool_l0 k a b n (i : Int) = some (if a.drop i = b.drop i then Ex.go () else Ex.rt false)
  | d, 0, i, _, h => absurd h (by omega)
  | 0, n + 1, i, hi, _ => by
    rw [slices_Equal_bool_l0, condN (by omega), if_pos (by rw [List.drop_eq_nil_of_le (by omega), List.drop_eq_nil_of_le (by omega)])]
  | d + 1, n + 1, i, hi, h => by
    have h1 : i < a.length := by omega
    have h2 : i < b.length := by omega
    rw [slices_Equal_bool_l0, condD (by omega), bindS (idx_nat h1), bindS (idx_nat h2), wr_succ (by omega)]
    by_cases he : a[i] = b[i]
    · rw [condF (by rw [he]; simp), slices_Equal_bool_l0_eq k a b hl hb d n (i + 1) (by omega) (by omega)]
      by_cases hd : a.drop (i + 1) = b.drop (i + 1)
      · rw [if_pos hd, if_pos ((drop_cons_ne h1 h2).2 ⟨he, hd⟩)]
      · rw [if_neg hd, if_neg (fun hh => hd ((drop_cons_ne h1 h2).1 hh).2)]
    · rw [condT (by simp [he]), if_neg (fun hh => he ((drop_cons_ne h1 h2).1 hh).1)]
theorem tree_Same_eq (k : Nat) (a b : List Bool) (hb : a.length ≤ 4294967295) (hk : a.length < k) : tree_Same k a b = some (decide (a = b)) := by
  unfold tree_Same slices_Equal_bool
  by_cases hl : a.length = b.length
  · have h0 : slices_Equal_bool_l0 k a b k 0 = _ := slices_Equal_bool_l0_eq k a b hl hb a.length k 0 (by omega) (by omega)
    rw [condF (by rw [decide_eq_true (by omega)]; rfl), bindS h0, List.drop_zero, List.drop_zero]
    by_cases he : a = b
    · rw [if_pos he, elim_go, decide_eq_true he]; rfl
    · rw [if_neg he, elim_rt, decide_eq_false he]; rfl
  · rw [condT (by rw [decide_eq_false (by omega)]; rfl), decide_eq_false (fun h => hl (by rw [h]))]
    rfl
theorem law16_told_eq : law16_told 2000 = some true := by decide +kernel
theorem TreeBack_true (a0 : List Bool) (h0 : okLB a0) (a1 : Int) (h1 : okI a1) (a2 : Int) (h2 : okU8 a2) : ∃ k, law16_TreeBack k a0 a1 a2 = some true := by
  refine ⟨2000, ?_⟩
  unfold law16_TreeBack
  by_cases hl : 200 < (a0.length : Int)
  · rw [condD hl, bindS law16_told_eq]
  rw [condN hl]
  have hnb := nb_def a0
  have hbl := bytesOf_len a0
  obtain ⟨t0, t1⟩ := h2
  rw [bindS (tree_Bytes_eq 2000 a0 (by omega) (by omega) (by omega))]
  rw [bindS (tree_From_eq 2000 (bytesOf a0) (byt_of a0) (by omega) (by omega) (.inl (by rw [le32_of (by omega)]; omega))), fromR_of (by omega) rfl]
  rw [condF (c := !decide ((a0, (0 : Int)).2 = 0)) rfl, bindS (tree_Same_eq 2000 a0 a0 (by omega) (by omega))]
  rw [condF (by rw [decide_eq_true rfl]; rfl), decide_eq_false (by omega), bindS rfl, condF rfl]
  rw [wr_id (x := ((bytesOf a0).length : Int) - 1) (by omega) (by omega), bindS (slc_eq (by omega)), Int.toNat_zero, Nat.sub_zero, List.drop_zero]
  have e1 : (((bytesOf a0).length : Int) - 1).toNat = (bytesOf a0).length - 1 := by omega
  rw [e1]
  have hle : ∀ b : List Int, b.length < 100 → le32 b < 2000 ∨ b.length < 4 ∨ 1048576 < le32 b ∨ b.length ≠ 4 + (le32 b + 7) / 8 := by
    intro b hb
    by_cases h : b.length = 4 + (le32 b + 7) / 8
    · left; omega
    · exact .inr (.inr (.inr h))
  rw [bindS (tree_From_eq 2000 _ ((byt_of a0).take _) (by simp; omega) (by omega) (hle _ (by simp; omega))), from_cut (by omega) (by omega)]
  rw [gdD (by simp; omega), gdD (by simp; omega), List.nil_append]
  rw [bindS (tree_From_eq 2000 _ ((byt_of a0).app (by intro n hn; rw [List.mem_singleton.1 hn]; decide)) (by simp; omega) (by omega) (hle _ (by simp; omega))), from_more (by omega)]
  rw [wu_id (x := ((bytesOf a0).length : Int)) (by omega) (by omega), gdD (by omega), gdD (by simp; omega)]
  obtain ⟨j0, j1⟩ := um a1 ((bytesOf a0).length : Int) (by omega)
  generalize (IntKind.u64.wrap a1).tmod ((bytesOf a0).length : Int) = j at *
  have hlt : j.toNat < (bytesOf a0).length := by omega
  have hbx := byt_of a0 _ (List.getElem_mem hlt)
  obtain ⟨x, hx, hxl⟩ : ∃ x : Nat, (bytesOf a0)[j.toNat] = (x : Int) ∧ x < 256 := ⟨((bytesOf a0)[j.toNat]).toNat, by omega, by omega⟩
  have hx0 : (bytesOf a0)[j.toNat]? = some (x : Int) := by rw [List.getElem?_eq_getElem hlt, hx]
  rw [bindS (idx_get j0 hx0), bindS (idx_get j0 hx0)]
  have hxor : IntKind.u8.wrap (((BitVec.ofInt IntKind.u8.bits (x : Int) ^^^ BitVec.ofInt IntKind.u8.bits a2).toNat : Nat) : Int) = ((x ^^^ a2.toNat : Nat) : Int) := by
    have := xor8 (a := x) (b := a2.toNat) hxl (by omega)
    rwa [Int.toNat_of_nonneg t0] at this
  have hxl2 : x ^^^ a2.toNat < 256 := by have : x ^^^ a2.toNat < 2 ^ 8 := Nat.xor_lt_two_pow hxl (by omega); omega
  rw [hxor]
  obtain ⟨X, hX⟩ : ∃ X, X = (bytesOf a0).set j.toNat ((x ^^^ a2.toNat : Nat) : Int) := ⟨_, rfl⟩
  rw [← hX]
  have hBX : Byt X := by rw [hX]; exact (byt_of a0).set (by omega)
  have hXl : X.length = (bytesOf a0).length := by rw [hX]; simp
  rw [bindS (tree_From_eq 2000 X hBX (by omega) (by omega) (hle _ (by omega))), bindS law16_told_eq, condT rfl, condD rfl, condD rfl]
  have hsame : a2 = 0 ↔ X = bytesOf a0 := by
    rw [hX]
    constructor
    · rintro rfl
      rw [show x ^^^ Int.toNat 0 = x from Nat.xor_zero x, ← hx]
      exact List.set_getElem_self hlt
    · intro h
      have h1 : ((bytesOf a0).set j.toNat ((x ^^^ a2.toNat : Nat) : Int))[j.toNat]? = some ((x ^^^ a2.toNat : Nat) : Int) := by rw [List.getElem?_set_self hlt]
      rw [h, hx0] at h1
      have h2 : x ^^^ a2.toNat = x := by have := Option.some.inj h1; omega
      have := xor_same.1 h2
      omega
  have he := fromR_err (b := X)
  have hz : a2 = 0 → fromR X = (a0, 0) := fun h => fromR_of (by omega) (hsame.1 h).symm
  rcases he with he | he
  · rw [condD he, condF (by rw [decide_eq_true he]; rfl)]
    have hb := fromR_back he
    rw [bindS (tree_Same_eq 2000 (fromR X).1 a0 (by omega) (by have := hb.1; have h2 := bytesOf_len (fromR X).1; have h3 := nb_def (fromR X).1; rw [hb.1] at h2; omega))]
    have hk : decide ((fromR X).1 = a0) = decide (a2 = 0) := by
      rw [decide_eq_decide]
      constructor
      · intro h1; rw [h1] at hb; exact hsame.2 hb.1.symm
      · intro h1; rw [hz h1]
    rw [hk, condT (by simp)]
    by_cases h : a2 = 0
    · rw [condF (by rw [decide_eq_true h]; rfl), decide_eq_true he]
    · rw [condT (by rw [decide_eq_false h]; rfl)]
  · have hne : (fromR X).2 ≠ 0 := by omega
    have h : a2 ≠ 0 := fun h => hne (by rw [hz h])
    rw [condN hne, condD he, condT (by rw [decide_eq_false hne]; rfl), condT (by rw [decide_eq_false h]; rfl)]
end Go.Px
