/- The law RecordKinds over the plain functions. -/
import Derived.Test.YtijfhnpmdhonhaaPRecordAsks
set_option linter.unusedVariables false
set_option linter.unusedSimpArgs false
namespace Go.Px
open Go Go.Sh
theorem RecordKinds_true (a0 : Record) (h0 : okRecord a0) (a1 : Record) (h1 : okRecord a1) : ∃ k, law22_RecordKinds k a0 a1 = some true := by
  refine ⟨2000, ?_⟩
  unfold law22_RecordKinds
  by_cases g1 : 200 < (a0.Text.size : Int)
  · rw [condD g1, bindS rfl, condT rfl, bindS law22_told_eq]
  by_cases g2 : 200 < (a1.Text.size : Int)
  · rw [condN g1, condD g2, bindS rfl, condT rfl, bindS law22_told_eq]
  rw [condN g1, condN g2]
  by_cases m0 : May a0
  · rw [bindS (record_May_eq _ _), condNT m0]
    by_cases m1 : May a1
    · have l0 := bytesR_len m0 200 (by omega) (by omega)
      have l1 := bytesR_len m1 200 (by omega) (by omega)
      rw [bindS (record_May_eq _ _), bindS rfl, condNT m1, bindS (record_Put_eq _ _ (by omega)), bindS (record_Put_eq _ _ (by omega)), bindS law22_told_eq, condT rfl]
      unfold putR
      rw [if_pos m0, if_pos m1, condD rfl, condD rfl]
      have e : (strOf (bytesR a0, (0 : Int)).1 == strOf (bytesR a1, (0 : Int)).1) = decide (bytesR a0 = bytesR a1) := strOf_inj (byt_bytesR m0) (byt_bytesR m1)
      have e2 : decide (bytesR a0 = bytesR a1) = decide (a0 = a1) := decide_eq_decide.2 ⟨fun h => bytesR_inj m0 m1 h (by omega), fun h => by rw [h]⟩
      have hf := first_eq m0
      have hp : 0 < (bytesR a0).length := List.length_pos_iff.2 hf.2.1
      rw [e, e2, condT (by simp)]
      have e3 : idx (bytesR a0, (0 : Int)).1 0 = some a0.Kind := by
        rw [← hf.1]
        exact idx_D (l := bytesR a0) (p := 0) hp
      rw [condD (by show (0 : Int) < ((bytesR a0).length : Int); omega), bindS e3, wr_id (by omega) (by omega), condD rfl]
      unfold record_Same
      rw [bindS rfl]
      simp
    · rw [bindS (record_May_eq _ _), bindS rfl, condNF m1, bindS law22_told_eq]
  · rw [bindS (record_May_eq _ _), condNF m0, bindS rfl, condT rfl, bindS law22_told_eq]
end Go.Px
