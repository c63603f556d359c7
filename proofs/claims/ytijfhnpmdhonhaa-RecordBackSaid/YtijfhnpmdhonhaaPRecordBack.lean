/- The law RecordBack over the plain functions. -/
import Derived.Test.YtijfhnpmdhonhaaPRecordAsks
set_option linter.unusedVariables false
set_option linter.unusedSimpArgs false
namespace Go.Px
open Go Go.Sh
theorem RecordBack_true (a0 : Record) (h0 : okRecord a0) (a1 : Int) (h1 : okI a1) (a2 : Int) (h2 : okU8 a2) : ∃ k, law22_RecordBack k a0 a1 a2 = some true := by
  refine ⟨2000, ?_⟩
  unfold law22_RecordBack
  by_cases g1 : 200 < (a0.Text.size : Int)
  · rw [condD g1, bindS rfl, condT rfl, bindS law22_told_eq]
  rw [condN g1]
  by_cases m0 : May a0
  · have l0 := bytesR_len m0 200 (by omega) (by omega)
    have hf := first_eq m0
    have hB := byt_bytesR m0
    have hp : 0 < (bytesR a0).length := List.length_pos_iff.2 hf.2.1
    rw [bindS (record_May_eq _ _), bindS rfl, condNT m0, bindS (record_Put_eq _ _ (by omega))]
    unfold putR
    rw [if_pos m0]
    rw [bindS (show record_Get 2000 (bytesR a0, (0 : Int)).1 = some (a0, 0) from get_ok (by omega) m0 (by omega))]
    rw [condNT (show (bytesR a0, (0 : Int)).2 = 0 from rfl), condNT (show (a0, (0 : Int)).2 = 0 from rfl), condNT (show (a0, (0 : Int)).1 = a0 from rfl)]
    simp only
    rw [condN (by omega), wu_id (x := ((bytesR a0).length : Int)) (by omega) (by omega), gdD (by omega)]
    obtain ⟨j0, j1⟩ := um a1 ((bytesR a0).length : Int) (by omega)
    generalize hj : (IntKind.u64.wrap a1).tmod ((bytesR a0).length : Int) = j at *
    obtain ⟨j, rfl⟩ := Int.eq_ofNat_of_zero_le j0
    have hjl : j < (bytesR a0).length := by omega
    rw [bindS (idx_D hjl), bindS (idx_D hjl), Int.toNat_natCast]
    obtain ⟨c, hc⟩ := Int.eq_ofNat_of_zero_le (byt_getD hB j).1
    have hc' := (byt_getD hB j).2
    obtain ⟨t0, t1⟩ := h2
    obtain ⟨b, rfl⟩ := Int.eq_ofNat_of_zero_le t0
    have hx : c ^^^ b < 2 ^ 8 := Nat.xor_lt_two_pow (by omega) (by omega)
    rw [hc, xor8 (by omega) (by omega)]
    have hBs : Byt ((bytesR a0).set j ((c ^^^ b : Nat) : Int)) := hB.set ⟨by omega, by omega⟩
    obtain ⟨d, e1, e2⟩ := record_Get_eq 2000 _ (by omega) hBs (by rw [List.length_set]; omega)
    rw [bindS e1, bindS law22_told_eq, condT rfl]
    have hgj : (bytesR a0)[j]? = some (c : Int) := by
      rw [← hc, List.getD_eq_getElem?_getD, List.getElem?_eq_getElem hjl]; rfl
    have hset : (bytesR a0).set j ((c ^^^ b : Nat) : Int) = bytesR a0 ↔ b = 0 := by
      constructor
      · intro h
        have h3 : ((bytesR a0).set j ((c ^^^ b : Nat) : Int))[j]? = some ((c ^^^ b : Nat) : Int) := by
          rw [List.getElem?_set_self hjl]
        rw [h, hgj, Option.some.injEq] at h3
        exact xor_same.1 (by omega : c ^^^ b = c)
      · rintro rfl
        rw [Nat.xor_zero]
        apply List.ext_getElem?
        intro q
        by_cases hq : j = q
        · subst hq
          rw [List.getElem?_set_self hjl, hgj]
        · rw [List.getElem?_set_ne hq]
    by_cases hb : b = 0
    · have hs := hset.2 hb
      have e3 : chk d ((bytesR a0).set j ((c ^^^ b : Nat) : Int)) = (a0, 0) := chk_of m0 e2 hs.symm
      rw [e3, hb]
      simp
    · have hne : ¬ (b : Int) = 0 := by omega
      unfold chk
      by_cases hk : May d ∧ bytesR d = (bytesR a0).set j ((c ^^^ b : Nat) : Int)
      · rw [if_pos hk]
        have hd : ¬ d = a0 := fun h => hb (hset.1 (by rw [← hk.2, h]))
        simp [hd, hne, hb]
      · rw [if_neg hk]
        simp [hne, hb]
  · rw [bindS (record_May_eq _ _), bindS rfl, condNF m0, bindS law22_told_eq]
end Go.Px
