/- The laws RecordAsks, RecordBack, RecordKinds over the plain functions: what they share, and RecordAsks. -/
import Derived.Test.YtijfhnpmdhonhaaPRecordGet2
set_option linter.unusedVariables false
set_option linter.unusedSimpArgs false
namespace Go.Px
open Go Go.Sh
theorem law22_told_eq : law22_told 2000 = some true := by decide +kernel
theorem chk_of {c r : Record} {l : List Int} (hm : May r) (h : ∀ r, May r → bytesR r = l → c = r) (e : bytesR r = l) : chk c l = (r, 0) := by
  have := h r hm e
  subst this
  unfold chk
  rw [if_pos ⟨hm, e⟩]
theorem chk_no {c : Record} {l : List Int} (h : ¬ ∃ r, May r ∧ bytesR r = l) : chk c l = (zR, 10) := by
  unfold chk
  rw [if_neg (fun hh => h ⟨c, hh⟩)]
theorem get_ok {k : Nat} {r : Record} (h4 : 4 < k) (hm : May r) (hl : (bytesR r).length ≤ 4294967296) : record_Get k (bytesR r) = some (r, 0) := by
  obtain ⟨c, h1, h2⟩ := record_Get_eq k (bytesR r) h4 (byt_bytesR hm) hl
  rw [h1, chk_of hm h2 rfl]
theorem get_alike {k : Nat} {l : List Int} (h4 : 4 < k) (hB : Byt l) (hl : l.length ≤ 4294967296) : ∃ o, record_Get k l = some o ∧ ref19_GetRecord k (strOf l) = some o := by
  obtain ⟨c, h1, h2⟩ := record_Get_eq k l h4 hB hl
  obtain ⟨c', h3, h4⟩ := ref19_GetRecord_eq k l h4 hB hl
  rw [h1, h3]
  by_cases h : ∃ r, May r ∧ bytesR r = l
  · obtain ⟨r, hm, e⟩ := h
    exact ⟨_, rfl, by rw [chk_of hm h2 e, chk_of hm h4 e]⟩
  · exact ⟨_, rfl, by rw [chk_no h, chk_no h]⟩
theorem bytesR_len {r : Record} (hm : May r) (n : Nat) (h : r.Text.size ≤ n) (hn : 19 ≤ n) : (bytesR r).length ≤ n + 1 := by
  unfold bytesR
  split
  · rw [List.length_cons, bytesI_len]; omega
  · split
    · simp [le4_len, le8_len]; omega
    · split
      · simp [le8_len]; omega
      · simp
theorem bytesR_inj {r s : Record} (hr : May r) (hs : May s) (h : bytesR r = bytesR s) (hl : (bytesR r).length ≤ 4294967296) : r = s := by
  have h1 := get_ok (k := 5) (by omega) hr hl
  have h2 := get_ok (k := 5) (by omega) hs (by rw [← h]; exact hl)
  rw [h, h2, Option.some.injEq, Prod.mk.injEq] at h1
  exact h1.1.symm
theorem RecordAsks_true (a0 : Record) (h0 : okRecord a0) (a1 : Record) (h1 : okRecord a1) (a2 : List Int) (h2 : okLU8 a2) : ∃ k, law22_RecordAsks k a0 a1 a2 = some true := by
  refine ⟨2000, ?_⟩
  unfold law22_RecordAsks
  have hB : Byt a2 := fun x hx => by
    have := h2.2 x hx
    unfold okU8 at this
    omega
  by_cases g1 : 200 < (a0.Text.size : Int)
  · rw [condD g1, bindS rfl, condT rfl, bindS law22_told_eq]
  by_cases g2 : 200 < (a1.Text.size : Int)
  · rw [condN g1, condD g2, bindS rfl, condT rfl, bindS law22_told_eq]
  by_cases g3 : 100 < (a2.length : Int)
  · rw [condN g1, condN g2, bindS rfl, condD g3, bindS law22_told_eq]
  rw [condN g1, condN g2, bindS rfl, condN g3]
  obtain ⟨o, e1, e2⟩ := get_alike (k := 2000) (by omega) hB (by omega)
  rw [bindS (record_Put_eq _ _ (by omega)), bindS (ref19_PutRecord_eq _ _ (by omega)), bindS e1, bindS e2, bindS law22_told_eq, condT rfl, bindS (record_May_eq _ _), bindS (ref19_MayRecord_eq _ _), condT (by simp), condD rfl, condT ((baeq _ _).2 rfl), condD rfl, condD rfl]
  unfold record_Same
  rw [bindS rfl]
  simp
end Go.Px
