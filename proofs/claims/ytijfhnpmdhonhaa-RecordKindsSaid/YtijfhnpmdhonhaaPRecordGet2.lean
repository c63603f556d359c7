/- record.Get and its reference answer alike. -/
import Derived.Test.YtijfhnpmdhonhaaPRecordGet
set_option linter.unusedVariables false
set_option linter.unusedSimpArgs false
namespace Go.Px
open Go Go.Sh
theorem condNT {p : Prop} [Decidable p] {α : Type} {a b : α} (h : p) : cond (!decide p) a b = b := by rw [decide_eq_true h]; rfl
theorem condNF {p : Prop} [Decidable p] {α : Type} {a b : α} (h : ¬ p) : cond (!decide p) a b = a := by rw [decide_eq_false h]; rfl
theorem strOf_extract (l : List Int) (i : Nat) : (strOf l).extract i l.length = strOf (l.drop i) := by
  apply ba_ext
  rw [ByteArray.data_extract, Array.toList_extract, strOf_data, strOf_data, List.map_drop, List.extract_eq_take_drop, List.take_of_length_le (by simp)]
def chk (c : Record) (l : List Int) : Record × Int := if May c ∧ bytesR c = l then (c, 0) else (zR, 10)
theorem tail_eq (k : Nat) (c : Record) {l : List Int} (h4 : 4 < k) (hB : Byt l) :
    (Option.bind (record_Put k c) fun r7 => cond (!decide (r7.2 = 0)) (some (Record.mk 0 (⟨#[]⟩ : ByteArray) (Order.mk 0 0 (Party.mk 0 0) 0 0) 0, (10 : Int))) (Option.bind (bytes_Equal k r7.1 l) fun r10 => cond (!r10) (some (Record.mk 0 (⟨#[]⟩ : ByteArray) (Order.mk 0 0 (Party.mk 0 0) 0 0) 0, 10)) (some (c, 0)))) = some (chk c l) := by
  rw [bindS (record_Put_eq k c h4), bindS (bytes_Equal_eq k (byt_putR c) hB)]
  unfold putR chk
  by_cases hm : May c
  · rw [if_pos hm, condNT (show (bytesR c, (0 : Int)).2 = 0 from rfl)]
    by_cases he : bytesR c = l
    · rw [if_pos ⟨hm, he⟩, condNT (show (bytesR c, (0 : Int)).1 = l from he)]
    · rw [if_neg (fun h => he h.2), condNF (show ¬ (bytesR c, (0 : Int)).1 = l from he)]
  · rw [if_neg hm, condNF (show ¬ (([] : List Int), (1 : Int)).2 = 0 by decide), if_neg (fun h => hm h.1)]
theorem tail_eq' (k : Nat) (c : Record) {l : List Int} (h4 : 4 < k) (hB : Byt l) :
    (Option.bind (ref19_PutRecord k c) fun r7 => cond (!decide (r7.2 = 0)) (some (Record.mk 0 (⟨#[]⟩ : ByteArray) (Order.mk 0 0 (Party.mk 0 0) 0 0) 0, (10 : Int))) (cond (!(r7.1 == strOf l)) (some (Record.mk 0 (⟨#[]⟩ : ByteArray) (Order.mk 0 0 (Party.mk 0 0) 0 0) 0, 10)) (some (c, 0)))) = some (chk c l) := by
  rw [bindS (ref19_PutRecord_eq k c h4)]
  have e : (strOf (putR c).1 == strOf l) = decide ((putR c).1 = l) := strOf_inj (byt_putR c) hB
  simp only [e]
  unfold putR chk
  by_cases hm : May c
  · rw [if_pos hm, condNT (show (bytesR c, (0 : Int)).2 = 0 from rfl)]
    by_cases he : bytesR c = l
    · rw [if_pos ⟨hm, he⟩, condNT (show (bytesR c, (0 : Int)).1 = l from he)]
    · rw [if_neg (fun h => he h.2), condNF (show ¬ (bytesR c, (0 : Int)).1 = l from he)]
  · rw [if_neg hm, condNF (show ¬ (([] : List Int), (1 : Int)).2 = 0 by decide), if_neg (fun h => hm h.1)]
theorem g4_of {x : Int} (h0 : 0 ≤ x) (h : x < 4294967296) : x % 256 + 256 * (x / 256 % 256) + 65536 * (x / 65536 % 256) + 16777216 * (x / 16777216 % 256) = x := by omega
theorem getD_app {l : List Int} {n : Nat} {b : List Int} {j : Nat} (h : n = l.length) : (l ++ b).getD (n + j) 0 = b.getD j 0 := by
  subst h
  rw [List.getD_eq_getElem?_getD, List.getD_eq_getElem?_getD, List.getElem?_append_right (by omega), Nat.add_sub_cancel_left]
theorem g4_app {l b : List Int} {n : Nat} (h : n = l.length) (j : Nat) : g4 (l ++ b) (n + j) = g4 b j := by
  unfold g4
  rw [getD_app h, Nat.add_assoc n j 1, Nat.add_assoc n j 2, Nat.add_assoc n j 3, getD_app h, getD_app h, getD_app h]
theorem g4_le4 {x : Int} (h0 : 0 ≤ x) (h : x < 4294967296) (b : List Int) : g4 (le4 x ++ b) 0 = x := g4_of h0 h
theorem g4_le4' {x : Int} (h0 : 0 ≤ x) (h : x < 4294967296) : g4 (le4 x) 0 = x := g4_of h0 h
theorem first_eq {r : Record} (hm : May r) : (bytesR r).getD 0 0 = r.Kind ∧ bytesR r ≠ [] ∧ 1 ≤ r.Kind ∧ r.Kind ≤ 4 := by
  unfold bytesR
  unfold May at hm
  by_cases h1 : r.Kind = 1
  · rw [if_pos h1, h1]; exact ⟨rfl, by simp, by omega, by omega⟩
  by_cases h2 : r.Kind = 2
  · rw [if_neg h1, if_pos h2, h2]; exact ⟨rfl, by simp, by omega, by omega⟩
  by_cases h3 : r.Kind = 3
  · rw [if_neg h1, if_neg h2, if_pos h3, h3]; exact ⟨rfl, by simp, by omega, by omega⟩
  rw [if_neg h1, if_neg h2, if_neg h3] at hm ⊢
  rw [hm.1]; exact ⟨rfl, by simp, by omega, by omega⟩
/-- What a three-kind record's bytes read back. -/
theorem read3 {r : Record} (hm : May r) (h3 : r.Kind = 3) : (bytesR r).length = 9 ∧ gv (bytesR r) 1 = r.Time % 4294967296 ∧ gv (bytesR r) 5 = r.Time / 4294967296 % 4294967296 := by
  have e : bytesR r = [3] ++ (le4 (r.Time % 4294967296) ++ le4 (r.Time / 4294967296 % 4294967296)) := by
    unfold bytesR le8
    rw [if_neg (by omega), if_neg (by omega), if_pos h3]
  rw [e]
  refine ⟨rfl, ?_, ?_⟩
  · unfold gv
    rw [if_pos (by simp [le4_len]), g4_app (n := 1) rfl 0, g4_le4 (by omega) (by omega)]
  · unfold gv
    rw [if_pos (by simp [le4_len]), g4_app (n := 1) rfl 4, g4_app (n := 4) rfl 0, g4_le4' (by omega) (by omega)]
theorem read2 {r : Record} (hm : May r) (h2 : r.Kind = 2) : (bytesR r).length = 20 ∧ gv (bytesR r) 1 = r.Order.Id ∧ (bytesR r).getD 5 0 = r.Order.State ∧ (bytesR r).getD 6 0 = r.Order.Party.Size ∧ (bytesR r).getD 7 0 = r.Order.Party.Wheels ∧
    gv (bytesR r) 8 = r.Order.Until % 4294967296 ∧ gv (bytesR r) 12 = r.Order.Until / 4294967296 % 4294967296 ∧ gv (bytesR r) 16 = r.Order.First + 1 := by
  have e : bytesR r = [2] ++ (le4 r.Order.Id ++ ([r.Order.State, r.Order.Party.Size, r.Order.Party.Wheels] ++ (le4 (r.Order.Until % 4294967296) ++ (le4 (r.Order.Until / 4294967296 % 4294967296) ++ le4 (r.Order.First + 1))))) := by
    unfold bytesR le8
    rw [if_neg (by omega), if_pos h2]
    simp only [List.append_assoc]
  unfold May at hm
  rw [if_neg (by omega), if_pos h2] at hm
  obtain ⟨m1, ⟨m2, m3, m4, m5, m6⟩, m7⟩ := hm
  have hl : (bytesR r).length = 20 := by rw [e]; rfl
  have hg : ∀ p, p + 4 ≤ 20 → gv (bytesR r) p = g4 (bytesR r) p := fun p hp => by unfold gv; rw [if_pos (by omega)]
  rw [hg 1 (by omega), hg 8 (by omega), hg 12 (by omega), hg 16 (by omega)]
  refine ⟨hl, ?_⟩
  rw [e]
  refine ⟨?_, rfl, rfl, rfl, ?_, ?_, ?_⟩
  · rw [g4_app (n := 1) rfl 0, g4_le4 (by omega) (by omega)]
  · rw [g4_app (n := 1) rfl 7, g4_app (n := 4) rfl 3, g4_app (n := 3) rfl 0, g4_le4 (by omega) (by omega)]
  · rw [g4_app (n := 1) rfl 11, g4_app (n := 4) rfl 7, g4_app (n := 3) rfl 4, g4_app (n := 4) rfl 0, g4_le4 (by omega) (by omega)]
  · rw [g4_app (n := 1) rfl 15, g4_app (n := 4) rfl 11, g4_app (n := 3) rfl 8, g4_app (n := 4) rfl 4, g4_app (n := 4) rfl 0, g4_le4' (by omega) (by omega)]
theorem wr_byte {l : List Int} (hB : Byt l) (p : Nat) : wr (l.getD p 0) = l.getD p 0 := by
  have := byt_getD hB p
  exact wr_id (by omega) (by omega)
theorem record_Get_eq (k : Nat) (l : List Int) (h4 : 4 < k) (hB : Byt l) (hl : l.length ≤ 4294967296) : ∃ c, record_Get k l = some (chk c l) ∧ ∀ r, May r → bytesR r = l → c = r := by
  unfold record_Get
  by_cases h0 : l.length = 0
  · refine ⟨zR, ?_, fun r hr e => ?_⟩
    · rw [condD (by omega), List.length_eq_zero_iff.1 h0]
      rfl
    · exact absurd (List.length_eq_zero_iff.1 h0) (by rw [← e]; exact (first_eq hr).2.1)
  rw [condN (by omega), bindS (show idx l 0 = _ from idx_D (l := l) (p := 0) (by omega)), wr_byte hB]
  have hk : ∀ r, May r → bytesR r = l → r.Kind = l.getD 0 0 := fun r hr e => by rw [← e]; exact (first_eq hr).1.symm
  by_cases h1 : l.getD 0 0 = 1
  · rw [condD h1, bindS (slc_eq (by omega)), h1]
    refine ⟨_, tail_eq k _ h4 hB, fun r hr e => ?_⟩
    have hk := hk r hr e
    rw [h1] at hk
    have e' : bytesR r = 1 :: bytesI r.Text := by unfold bytesR; rw [if_pos hk]
    unfold May at hr
    rw [if_pos hk] at hr
    symm
    rw [rec_eq]
    refine ⟨hk, ?_, hr.2⟩
    rw [← e, e']
    show r.Text = strOf (((1 :: bytesI r.Text).drop 1).take _)
    rw [List.drop_succ_cons, List.drop_zero, List.take_of_length_le (by simp), strOf_bytesI]
  rw [condN h1]
  by_cases h3 : l.getD 0 0 = 3
  · rw [condD h3, bindS (show record_clock k l 1 = _ from record_clock_eq k l 1 h4 hB hl (by omega)), h3]
    refine ⟨_, tail_eq k _ h4 hB, fun r hr e => ?_⟩
    have hk := hk r hr e
    rw [h3] at hk
    obtain ⟨e1, e2, e3⟩ := read3 hr hk
    rw [e] at e2 e3
    unfold May at hr
    rw [if_neg (by omega), if_neg (by omega), if_pos hk] at hr
    symm
    rw [rec_eq, e2, e3, clk_eq (by omega) (by omega)]
    have hu : r.Time = r.Time % 4294967296 + r.Time / 4294967296 % 4294967296 * 4294967296 := by omega
    exact ⟨hk, hr.1, hr.2.1, hu⟩
  rw [condN h3]
  by_cases h2 : l.getD 0 0 = 2 ∧ 7 < l.length
  · rw [condD h2.1, bindS rfl, condD (by omega), bindS (show sum_Get k l 1 = _ from sum_Get_eq k l 1 h4 hB hl (by omega)), bindS (show sum_Get k l 16 = _ from sum_Get_eq k l 16 h4 hB hl (by omega)),
      bindS (show idx l 5 = _ from idx_D (l := l) (p := 5) (by omega)), bindS (show idx l 6 = _ from idx_D (l := l) (p := 6) (by omega)), bindS (show idx l 7 = _ from idx_D (l := l) (p := 7) (by omega)),
      bindS (show record_clock k l 8 = _ from record_clock_eq k l 8 h4 hB hl (by omega)), h2.1]
    refine ⟨_, tail_eq k _ h4 hB, fun r hr e => ?_⟩
    have hk := hk r hr e
    rw [h2.1] at hk
    obtain ⟨e1, e2, e3, e4, e5, e6, e7, e8⟩ := read2 hr hk
    rw [e] at e2 e3 e4 e5 e6 e7 e8
    rw [wr_byte hB, wr_byte hB, wr_byte hB]
    simp only [e2, e3, e4, e5, e6, e7, e8]
    unfold May at hr
    rw [if_neg (by omega), if_pos hk] at hr
    obtain ⟨m1, ⟨m2, m3, m4, m5, m6⟩, m7⟩ := hr
    symm
    rw [rec_eq, clk_eq (by omega) (by omega), wr_id (x := r.Order.Id) (by omega) (by omega), wr_id (x := r.Order.First + 1) (by omega) (by omega), wr_id (x := r.Order.First + 1 - 1) (by omega) (by omega)]
    refine ⟨hk, m1, ?_, m7⟩
    have hu : r.Order.Until % 4294967296 + r.Order.Until / 4294967296 % 4294967296 * 4294967296 = r.Order.Until := by omega
    have hf : r.Order.First + 1 - 1 = r.Order.First := by omega
    rw [hu, hf]
  · have hc : (cond (decide (l.getD 0 0 = 2)) (some (decide (7 < (l.length : Int)))) (some false)) = some false := by
      by_cases h5 : l.getD 0 0 = 2
      · rw [condD h5, decide_eq_false (by omega)]
      · rw [condN h5]
    rw [hc, bindS rfl, condF rfl]
    refine ⟨_, tail_eq k _ h4 hB, fun r hr e => ?_⟩
    have hk := hk r hr e
    have hf := first_eq hr
    have h5 : l.getD 0 0 = 4 := by
      rcases Classical.em (l.getD 0 0 = 2) with h5 | h5
      · have := (read2 hr (by omega)).1
        rw [e] at this
        omega
      · omega
    unfold May at hr
    rw [if_neg (by omega), if_neg (by omega), if_neg (by omega)] at hr
    symm
    rw [rec_eq]
    exact ⟨hk, hr.2⟩
theorem ref19_GetRecord_eq (k : Nat) (l : List Int) (h4 : 4 < k) (hB : Byt l) (hl : l.length ≤ 4294967296) : ∃ c, ref19_GetRecord k (strOf l) = some (chk c l) ∧ ∀ r, May r → bytesR r = l → c = r := by
  unfold ref19_GetRecord
  rw [strOf_size, bytesI_strOf hB]
  by_cases h0 : l.length = 0
  · refine ⟨zR, ?_, fun r hr e => ?_⟩
    · rw [condD (by omega), List.length_eq_zero_iff.1 h0]
      rfl
    · exact absurd (List.length_eq_zero_iff.1 h0) (by rw [← e]; exact (first_eq hr).2.1)
  rw [condN (by omega), bindS (show idx l 0 = _ from idx_D (l := l) (p := 0) (by omega)), wr_byte hB]
  have hk : ∀ r, May r → bytesR r = l → r.Kind = l.getD 0 0 := fun r hr e => by rw [← e]; exact (first_eq hr).1.symm
  by_cases h1 : l.getD 0 0 = 1
  · rw [condD h1, gdD (by omega), h1]
    refine ⟨_, tail_eq' k _ h4 hB, fun r hr e => ?_⟩
    have hk := hk r hr e
    rw [h1] at hk
    have e' : bytesR r = 1 :: bytesI r.Text := by unfold bytesR; rw [if_pos hk]
    unfold May at hr
    rw [if_pos hk] at hr
    symm
    rw [rec_eq]
    refine ⟨hk, ?_, hr.2⟩
    rw [← e, e']
    show r.Text = (strOf (1 :: bytesI r.Text)).extract 1 (1 :: bytesI r.Text).length
    rw [strOf_extract, List.drop_succ_cons, List.drop_zero, strOf_bytesI]
  rw [condN h1]
  have hlast : ∀ r, May r → bytesR r = l → l.getD 0 0 = 1 ∨ (l.getD 0 0 = 2 ∧ l.length = 20) ∨ (l.getD 0 0 = 3 ∧ l.length = 9) ∨ l.getD 0 0 = 4 := fun r hr e => by
    have hk := hk r hr e
    have hf := first_eq hr
    rcases Classical.em (l.getD 0 0 = 2) with h5 | h5
    · have := (read2 hr (by omega)).1
      rw [e] at this
      omega
    rcases Classical.em (l.getD 0 0 = 3) with h6 | h6
    · have := (read3 hr (by omega)).1
      rw [e] at this
      omega
    omega
  by_cases h2 : l.getD 0 0 = 2 ∧ l.length = 20
  · rw [condD h2.1, bindS rfl, condD (by omega), bindS (show ref19_Get k (strOf l) 1 = _ from ref19_Get_eq k l 1 hB hl (by omega)), bindS (show ref19_Get k (strOf l) 8 = _ from ref19_Get_eq k l 8 hB hl (by omega)),
      bindS (show ref19_Get k (strOf l) 12 = _ from ref19_Get_eq k l 12 hB hl (by omega)), bindS (show ref19_Get k (strOf l) 16 = _ from ref19_Get_eq k l 16 hB hl (by omega)),
      bindS (show idx l 5 = _ from idx_D (l := l) (p := 5) (by omega)), bindS (show idx l 6 = _ from idx_D (l := l) (p := 6) (by omega)), bindS (show idx l 7 = _ from idx_D (l := l) (p := 7) (by omega)), h2.1]
    refine ⟨_, tail_eq' k _ h4 hB, fun r hr e => ?_⟩
    have hk := hk r hr e
    rw [h2.1] at hk
    obtain ⟨e1, e2, e3, e4, e5, e6, e7, e8⟩ := read2 hr hk
    rw [e] at e2 e3 e4 e5 e6 e7 e8
    rw [wr_byte hB, wr_byte hB, wr_byte hB]
    simp only [e2, e3, e4, e5, e6, e7, e8]
    unfold May at hr
    rw [if_neg (by omega), if_pos hk] at hr
    obtain ⟨m1, ⟨m2, m3, m4, m5, m6⟩, m7⟩ := hr
    symm
    have hc : ∀ a b, IntKind.i64.wrap (((BitVec.ofInt IntKind.i64.bits (wr a) ||| BitVec.ofInt IntKind.i64.bits (IntKind.i64.wrap (wr b * 2 ^ (min (32 : Int).toNat IntKind.i64.bits)))).toNat : Nat) : Int) = clk' a b := fun _ _ => rfl
    rw [rec_eq, hc, clk'_eq (by omega) (by omega), wr_id (x := r.Order.Id) (by omega) (by omega), wr_id (x := r.Order.First + 1) (by omega) (by omega), wr_id (x := r.Order.First + 1 - 1) (by omega) (by omega)]
    refine ⟨hk, m1, ?_, m7⟩
    have hu : r.Order.Until % 4294967296 + r.Order.Until / 4294967296 % 4294967296 * 4294967296 = r.Order.Until := by omega
    have hf : r.Order.First + 1 - 1 = r.Order.First := by omega
    rw [hu, hf]
  have hc : (cond (decide (l.getD 0 0 = 2)) (some (decide ((l.length : Int) = 20))) (some false)) = some false := by
    by_cases h5 : l.getD 0 0 = 2
    · rw [condD h5, decide_eq_false (by omega)]
    · rw [condN h5]
  rw [hc, bindS rfl, condF rfl]
  by_cases h3 : l.getD 0 0 = 3 ∧ l.length = 9
  · rw [condD h3.1, bindS rfl, condD (by omega), bindS (show ref19_Get k (strOf l) 1 = _ from ref19_Get_eq k l 1 hB hl (by omega)), bindS (show ref19_Get k (strOf l) 5 = _ from ref19_Get_eq k l 5 hB hl (by omega)), h3.1]
    refine ⟨_, tail_eq' k _ h4 hB, fun r hr e => ?_⟩
    have hk := hk r hr e
    rw [h3.1] at hk
    obtain ⟨e1, e2, e3⟩ := read3 hr hk
    rw [e] at e2 e3
    simp only [e2, e3]
    unfold May at hr
    rw [if_neg (by omega), if_neg (by omega), if_pos hk] at hr
    symm
    have hc : ∀ a b, IntKind.i64.wrap (((BitVec.ofInt IntKind.i64.bits (wr a) ||| BitVec.ofInt IntKind.i64.bits (IntKind.i64.wrap (wr b * 2 ^ (min (32 : Int).toNat IntKind.i64.bits)))).toNat : Nat) : Int) = clk' a b := fun _ _ => rfl
    rw [rec_eq, hc, clk'_eq (by omega) (by omega)]
    have hu : r.Time = r.Time % 4294967296 + r.Time / 4294967296 % 4294967296 * 4294967296 := by omega
    exact ⟨hk, hr.1, hr.2.1, hu⟩
  have hc : (cond (decide (l.getD 0 0 = 3)) (some (decide ((l.length : Int) = 9))) (some false)) = some false := by
    by_cases h5 : l.getD 0 0 = 3
    · rw [condD h5, decide_eq_false (by omega)]
    · rw [condN h5]
  rw [hc, bindS rfl, condF rfl]
  refine ⟨_, tail_eq' k _ h4 hB, fun r hr e => ?_⟩
  have hk := hk r hr e
  have hL := hlast r hr e
  unfold May at hr
  rw [if_neg (by omega), if_neg (by omega), if_neg (by omega)] at hr
  symm
  rw [rec_eq]
  exact ⟨hk, hr.2⟩
end Go.Px
