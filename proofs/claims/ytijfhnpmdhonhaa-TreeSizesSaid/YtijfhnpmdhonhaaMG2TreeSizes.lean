/- TreeSizes: the law TreeSizes of the given program returns true at every input, and the input reads as before. No condition. -/
import Derived.Test.YtijfhnpmdhonhaaMG2
import Derived.Test.YtijfhnpmdhonhaaRows
import Derived.ProofKit
set_option linter.unusedVariables false
set_option linter.unusedSimpArgs false
set_option maxRecDepth 100000
namespace Go.Proofs.Ytijfhnpmdhonhaa
open Go Go.Sh Go.ChangeShapes Go.WideShapes Go.ChangeAt Go.RowKit
attribute [local irreducible] Go.Sh.T Go.Sh.RunT Go.Sh.RunD
theorem Try.own : ownKnob Try.prog.godebug = none := by kernel_rfl
theorem Try.laidOut : laidOutB Try.prog = true := by kernel_rfl
theorem sizes_pc (l : List Bool) (n : Int) (hb : l.length ≤ 9223372036854775807) : PC Try.prog false 9 [.lst (l.map bS), .v (.int .i64 n)] (.v (.bool (true))) := by
  obtain ⟨k, hk, _, k1, k2⟩ := um n 300 (by omega) (by omega)
  have hll : (l.map bS).length = l.length := List.length_map ..
  refine PC.of_T Try.func9 rfl rfl (n := 81) rfl rfl (.inr rfl) ?_
  intro base B w0
  refine T.seq ?_
  refine T.region ?_
  refine RunT.op0 rfl rfl rfl rfl .assign ?_
  refine RunT.nil ?_
  refine T.seq ?_
  refine T.region ?_
  refine RunT.op0 rfl rfl rfl rfl .move ?_
  refine RunT.op0 rfl rfl rfl rfl (.conv rfl (fun w => c_int w ⟨_, Try.underlying3⟩ Try.underlying31) rfl) ?_
  refine RunT.op0 rfl rfl rfl rfl (.bin rfl rfl (fun w => b_rem w (by decide)) rfl) ?_
  refine RunT.op0 rfl rfl rfl rfl (.conv rfl (fun w => Go.Sh.c_int' w ⟨_, Try.underlying31⟩ Try.underlying3 (hk)) rfl) ?_
  refine RunT.op0 rfl rfl rfl rfl .assign ?_
  refine RunT.nil ?_
  refine T.seq ?_
  refine T.region ?_
  refine RunT.op0 rfl rfl rfl rfl .assign ?_
  refine RunT.nil ?_
  refine T.seq ?_
  refine T.seq ?_
  refine T.region ?_
  refine RunT.op0 rfl rfl rfl rfl .assign ?_
  refine RunT.nil ?_
  refine T.block ?_
  refine T.sub (sub_nil (t := 6) (sz := 1) false rfl (by decide) rfl) ?_
  refine T.loopS (fun n s => ∃ i : Int, ∃ z : Nat, ∃ m : List Bool, n = (k - i).toNat ∧ (z : Int) = i ∧ i ≤ k ∧ z = (m.map bS).length ∧ s = ⟨[(0, .lst (l.map bS)), (5, .v (.int .i64 k)), (6, .own 0 0 z), (7, .v (.int .i64 i))], [(0, some (.arr false 1 (m.map bS)))], 8, []⟩) (_) ⟨_, ⟨0, 0, [], rfl, rfl, by omega, rfl, rfl⟩, (sub_of (fun b => b) rfl (by repeat (first | exact trivial | exact ⟨rfl, rfl⟩ | refine ⟨?_, ?_⟩)) (by repeat (first | exact trivial | exact ⟨rfl, rfl, trivial⟩ | exact ⟨rfl, rfl, rfl⟩ | refine ⟨?_, ?_⟩)) (fun _ _ _ _ _ _ h => h))⟩ ?_
  rintro n s ⟨i, z, m, rfl, h0, h1, h2, rfl⟩
  refine T.seq ?_
  refine T.seq ?_
  refine T.region ?_
  refine RunT.op0 rfl rfl rfl rfl .move ?_
  refine RunT.op0 rfl rfl rfl rfl .move ?_
  refine RunT.op0 rfl rfl rfl rfl (.bin rfl rfl (fun w => b_lss w) rfl) ?_
  refine RunT.nil ?_
  refine T.cond2 rfl (fun c19 => ?_) (fun c19 => ?_)
  · have c19p := c19; (try simp only [decide_eq_true_eq, decide_eq_false_iff_not, Bool.not_eq_true', Bool.not_eq_false', Bool.and_eq_true, Bool.or_eq_true] at c19p)
    refine T.skip ?_
    refine T.seq ?_
    refine T.block ?_
    obtain ⟨p, hp⟩ : ∃ p, 0 < l.length → (l.map bS)[(i.tmod ((l.map bS).length : Int)).toNat]? = some (bS p) := by
      by_cases h : 0 < l.length
      · have h3 := Int.tmod_nonneg ((l.map bS).length : Int) (a := i) (by omega)
        have h4 := Int.tmod_lt_of_pos i (b := ((l.map bS).length : Int)) (by omega)
        obtain ⟨p, _, hp⟩ := gm (l := l) (f := bS) h3 (by omega)
        exact ⟨p, fun _ => hp⟩
      · exact ⟨true, fun h1 => absurd h1 h⟩
    refine T.region ?_
    refine RunT.op0 rfl rfl rfl rfl .move ?_
    refine RunT.op0 rfl rfl rfl rfl .move ?_
    refine RunT.op0 rfl rfl rfl rfl (by first | exact .lenL Try.underlying34 rfl rfl | exact .lenO Try.underlying34 rfl rfl | exact .lenV rfl (fun _ w => len_nil rfl Try.underlying34 w) rfl) ?_
    refine RunT.op0 rfl rfl rfl rfl (.bin rfl rfl (fun w => b_gtr w) rfl) ?_
    refine RunT.op0 rfl rfl rfl rfl .move ?_
    refine RunT.cases (t := 26) rfl (fun g26 => ?_) (fun g26 => ?_)
    · have g26p := g26; (try simp only [decide_eq_true_eq, decide_eq_false_iff_not, Bool.not_eq_true', Bool.not_eq_false', Bool.and_eq_true, Bool.or_eq_true] at g26p)
      refine RunT.opg rfl rfl rfl (bo g26) rfl rfl .move ?_
      refine RunT.opg rfl rfl rfl (bo g26) rfl rfl .move ?_
      refine RunT.opg rfl rfl rfl (bo g26) rfl rfl .move ?_
      refine RunT.opg rfl rfl rfl (bo g26) rfl rfl (by first | exact .lenL Try.underlying34 rfl rfl | exact .lenO Try.underlying34 rfl rfl | exact .lenV rfl (fun _ w => len_nil rfl Try.underlying34 w) rfl) ?_
      refine RunT.opg rfl rfl rfl (bo g26) rfl rfl (.bin rfl rfl (fun w => b_rem w (by omega)) rfl) ?_
      refine RunT.opg rfl rfl rfl (bo g26) rfl rfl (.idxL sl34 rfl rfl (Int.tmod_nonneg _ (by omega)) (hp (by omega)) rfl) ?_
      refine RunT.opg rfl rfl rfl (bo g26) rfl rfl (by first | exact .loadP ty4 rfl rfl rfl | exact .loadR ty4 rfl rfl | exact .loadE ty4 rfl rfl (by assumption) rfl) ?_
      refine RunT.op0 rfl rfl rfl rfl (.pick (bo g26)) ?_
      refine RunT.op0 rfl rfl rfl rfl (.bslice (d := false) sl34 rfl rfl (by intro y hy; rcases List.mem_cons.1 hy with rfl | hy; exact ⟨rfl, rfl, fun _ => rfl⟩; exact (List.not_mem_nil hy).elim) (by decide)) ?_
      refine RunT.op0 rfl rfl rfl rfl (.appO (d := false) sl34 rfl rfl (by omega) (List.take_of_length_le (by omega)) rfl (.own Try.underlying34 rfl (Nat.le_refl _) (show _ = [_] from rfl) (fun h => by cases h)) rfl (by simp only [List.length_cons, List.length_nil]; omega)) ?_
      refine RunT.op0 rfl rfl rfl rfl .assign ?_
      refine RunT.nil ?_
      refine T.region ?_
      refine RunT.op0 rfl rfl rfl rfl .move ?_
      refine RunT.op0 rfl rfl rfl rfl (.bin rfl rfl (fun w => b_add' w (w64 (by omega) (by omega))) rfl) ?_
      refine RunT.op0 rfl rfl rfl rfl .assign ?_
      refine RunT.nil ?_
      first
        | exact ⟨(k - (i + 1)).toNat, by omega, _, ⟨i + 1, z + 1, m ++ [p], rfl, by omega, by omega, by simp; simpa using h2, rfl⟩, sub_of (fun b => b + 16) rfl (by repeat (first | exact trivial | exact ⟨rfl, rfl⟩ | refine ⟨?_, ?_⟩)) ⟨⟨rfl, congrArg (fun l => some (Blk.arr false 1 l)) (List.map_append (f := bS) (l₁ := m) (l₂ := [p])).symm, trivial⟩, trivial⟩ (fun _ _ _ _ _ _ h => by omega)⟩
        | exact ⟨(k - (i + 1)).toNat, by omega, _, ⟨i + 1, z + 1, m ++ [false], rfl, by omega, by omega, by simp; simpa using h2, rfl⟩, sub_of (fun b => b + 16) rfl (by repeat (first | exact trivial | exact ⟨rfl, rfl⟩ | refine ⟨?_, ?_⟩)) ⟨⟨rfl, congrArg (fun l => some (Blk.arr false 1 l)) (List.map_append (f := bS) (l₁ := m) (l₂ := [false])).symm, trivial⟩, trivial⟩ (fun _ _ _ _ _ _ h => by omega)⟩
    · have g26p := g26; (try simp only [decide_eq_true_eq, decide_eq_false_iff_not, Bool.not_eq_true', Bool.not_eq_false', Bool.and_eq_true, Bool.or_eq_true] at g26p)
      refine RunT.no rfl rfl rfl (bo g26) rfl ?_
      refine RunT.no rfl rfl rfl (bo g26) rfl ?_
      refine RunT.no rfl rfl rfl (bo g26) rfl ?_
      refine RunT.no rfl rfl rfl (bo g26) rfl ?_
      refine RunT.no rfl rfl rfl (bo g26) rfl ?_
      refine RunT.no rfl rfl rfl (bo g26) rfl ?_
      refine RunT.no rfl rfl rfl (bo g26) rfl ?_
      refine RunT.op0 rfl rfl rfl rfl (.pick (bo g26)) ?_
      refine RunT.op0 rfl rfl rfl rfl (.bslice (d := false) sl34 rfl rfl (by intro y hy; rcases List.mem_cons.1 hy with rfl | hy; exact ⟨rfl, rfl, fun _ => rfl⟩; exact (List.not_mem_nil hy).elim) (by decide)) ?_
      refine RunT.op0 rfl rfl rfl rfl (.appO (d := false) sl34 rfl rfl (by omega) (List.take_of_length_le (by omega)) rfl (.own Try.underlying34 rfl (Nat.le_refl _) (show _ = [_] from rfl) (fun h => by cases h)) rfl (by simp only [List.length_cons, List.length_nil]; omega)) ?_
      refine RunT.op0 rfl rfl rfl rfl .assign ?_
      refine RunT.nil ?_
      refine T.region ?_
      refine RunT.op0 rfl rfl rfl rfl .move ?_
      refine RunT.op0 rfl rfl rfl rfl (.bin rfl rfl (fun w => b_add' w (w64 (by omega) (by omega))) rfl) ?_
      refine RunT.op0 rfl rfl rfl rfl .assign ?_
      refine RunT.nil ?_
      first
        | exact ⟨(k - (i + 1)).toNat, by omega, _, ⟨i + 1, z + 1, m ++ [p], rfl, by omega, by omega, by simp; simpa using h2, rfl⟩, sub_of (fun b => b + 16) rfl (by repeat (first | exact trivial | exact ⟨rfl, rfl⟩ | refine ⟨?_, ?_⟩)) ⟨⟨rfl, congrArg (fun l => some (Blk.arr false 1 l)) (List.map_append (f := bS) (l₁ := m) (l₂ := [p])).symm, trivial⟩, trivial⟩ (fun _ _ _ _ _ _ h => by omega)⟩
        | exact ⟨(k - (i + 1)).toNat, by omega, _, ⟨i + 1, z + 1, m ++ [false], rfl, by omega, by omega, by simp; simpa using h2, rfl⟩, sub_of (fun b => b + 16) rfl (by repeat (first | exact trivial | exact ⟨rfl, rfl⟩ | refine ⟨?_, ?_⟩)) ⟨⟨rfl, congrArg (fun l => some (Blk.arr false 1 l)) (List.map_append (f := bS) (l₁ := m) (l₂ := [false])).symm, trivial⟩, trivial⟩ (fun _ _ _ _ _ _ h => by omega)⟩
  · have c19p := c19; (try simp only [decide_eq_true_eq, decide_eq_false_iff_not, Bool.not_eq_true', Bool.not_eq_false', Bool.and_eq_true, Bool.or_eq_true] at c19p)
    refine T.exit ?_
    refine T.seq ?_
    have hmk : (m.length : Int) = k := by rw [List.length_map] at h2; omega
    have hml : (m.map bS).length = m.length := List.length_map ..
    have hcs := cnt_sum m
    have hbl : ((bytesOf m).map b8).length = 4 + nb m := by rw [List.length_map, bytesOf_len]
    have hnb : nb m = (m.length + 7) / 8 := rfl
    have hc1 : 0 ≤ cnt true m := Int.natCast_nonneg _
    have hc2 : 0 ≤ cnt false m := Int.natCast_nonneg _
    refine T.region ?_
    refine RunT.op0 rfl rfl rfl rfl .move ?_
    refine RunT.call0 rfl rfl rfl rfl rfl rfl (bytes_pc m (by omega)) (by repeat (first | exact trivial | refine ⟨?_, ?_⟩ | exact .one .v | exact .one .lst | exact .one .rptr | exact .one (.all rfl rfl) | exact .one .nil | exact .agg' (by repeat (first | exact trivial | refine ⟨?_, ?_⟩ | exact .v | exact .lst | exact .rptr | exact .all rfl rfl | exact .nil | exact .clo' trivial)) | exact .one (.clo' (by repeat (first | exact trivial | refine ⟨?_, ?_⟩ | exact .v | exact .lst | exact .rptr | exact .all rfl rfl | exact .nil | exact .clo' trivial))) | exact .one (.ptr' rfl (by repeat (first | exact trivial | refine ⟨?_, ?_⟩ | exact .v | exact .lst | exact .rptr | exact .all rfl rfl | exact .nil | exact .clo' trivial))) | exact .one (.own' rfl (by first | omega | (simp; done) | (simp; omega)) (by first | rw [List.drop_zero, List.take_of_length_le (by omega)] | (rw [List.drop_zero, List.take_of_length_le (by simp)]; simp; done) | (simp [List.take_append]; done) | (simp; omega))))) (Nat.le_of_ble_eq_true rfl) ?_
    refine RunT.op0 rfl rfl rfl rfl .assign ?_
    refine RunT.nil ?_
    refine T.seq ?_
    refine T.region ?_
    refine RunT.op0 rfl rfl rfl rfl .move ?_
    refine RunT.call0 rfl rfl rfl rfl rfl rfl (from_ok m (by omega)) (by repeat (first | exact trivial | refine ⟨?_, ?_⟩ | exact .one .v | exact .one .lst | exact .one .rptr | exact .one (.all rfl rfl) | exact .one .nil | exact .agg' (by repeat (first | exact trivial | refine ⟨?_, ?_⟩ | exact .v | exact .lst | exact .rptr | exact .all rfl rfl | exact .nil | exact .clo' trivial)) | exact .one (.clo' (by repeat (first | exact trivial | refine ⟨?_, ?_⟩ | exact .v | exact .lst | exact .rptr | exact .all rfl rfl | exact .nil | exact .clo' trivial))) | exact .one (.ptr' rfl (by repeat (first | exact trivial | refine ⟨?_, ?_⟩ | exact .v | exact .lst | exact .rptr | exact .all rfl rfl | exact .nil | exact .clo' trivial))) | exact .one (.own' rfl (by first | omega | (simp; done) | (simp; omega)) (by first | rw [List.drop_zero, List.take_of_length_le (by omega)] | (rw [List.drop_zero, List.take_of_length_le (by simp)]; simp; done) | (simp [List.take_append]; done) | (simp; omega))))) (Nat.le_of_ble_eq_true rfl) ?_
    refine RunT.op0 rfl rfl rfl rfl .move ?_
    refine RunT.op0 rfl rfl rfl rfl (.extract rfl rfl) ?_
    refine RunT.op0 rfl rfl rfl rfl (.extract rfl rfl) ?_
    refine RunT.op0 rfl rfl rfl rfl .assign ?_
    refine RunT.op0 rfl rfl rfl rfl .assign ?_
    refine RunT.nil ?_
    refine T.seq ?_
    refine T.region ?_
    refine RunT.op0 rfl rfl rfl rfl .move ?_
    refine RunT.call0 rfl rfl rfl rfl rfl rfl (size_pc m (by omega)) (by repeat (first | exact trivial | refine ⟨?_, ?_⟩ | exact .one .v | exact .one .lst | exact .one .rptr | exact .one (.all rfl rfl) | exact .one .nil | exact .agg' (by repeat (first | exact trivial | refine ⟨?_, ?_⟩ | exact .v | exact .lst | exact .rptr | exact .all rfl rfl | exact .nil | exact .clo' trivial)) | exact .one (.clo' (by repeat (first | exact trivial | refine ⟨?_, ?_⟩ | exact .v | exact .lst | exact .rptr | exact .all rfl rfl | exact .nil | exact .clo' trivial))) | exact .one (.ptr' rfl (by repeat (first | exact trivial | refine ⟨?_, ?_⟩ | exact .v | exact .lst | exact .rptr | exact .all rfl rfl | exact .nil | exact .clo' trivial))) | exact .one (.own' rfl (by first | omega | (simp; done) | (simp; omega)) (by first | rw [List.drop_zero, List.take_of_length_le (by omega)] | (rw [List.drop_zero, List.take_of_length_le (by simp)]; simp; done) | (simp [List.take_append]; done) | (simp; omega))))) (Nat.le_of_ble_eq_true rfl) ?_
    refine RunT.op0 rfl rfl rfl rfl .move ?_
    refine RunT.op0 rfl rfl rfl rfl (.extract rfl rfl) ?_
    refine RunT.op0 rfl rfl rfl rfl (.extract rfl rfl) ?_
    refine RunT.op0 rfl rfl rfl rfl .assign ?_
    refine RunT.op0 rfl rfl rfl rfl .assign ?_
    refine RunT.nil ?_
    refine T.seq ?_
    refine T.region ?_
    refine RunT.call0 rfl rfl rfl rfl rfl rfl (told_pc) (by repeat (first | exact trivial | refine ⟨?_, ?_⟩ | exact .one .v | exact .one .lst | exact .one .rptr | exact .one (.all rfl rfl) | exact .one .nil | exact .agg' (by repeat (first | exact trivial | refine ⟨?_, ?_⟩ | exact .v | exact .lst | exact .rptr | exact .all rfl rfl | exact .nil | exact .clo' trivial)) | exact .one (.clo' (by repeat (first | exact trivial | refine ⟨?_, ?_⟩ | exact .v | exact .lst | exact .rptr | exact .all rfl rfl | exact .nil | exact .clo' trivial))) | exact .one (.ptr' rfl (by repeat (first | exact trivial | refine ⟨?_, ?_⟩ | exact .v | exact .lst | exact .rptr | exact .all rfl rfl | exact .nil | exact .clo' trivial))) | exact .one (.own' rfl (by first | omega | (simp; done) | (simp; omega)) (by first | rw [List.drop_zero, List.take_of_length_le (by omega)] | (rw [List.drop_zero, List.take_of_length_le (by simp)]; simp; done) | (simp [List.take_append]; done) | (simp; omega))))) (Nat.le_of_ble_eq_true rfl) ?_
    refine RunT.op0 rfl rfl rfl rfl .move ?_
    refine RunT.opg rfl rfl rfl rfl rfl rfl .move ?_
    refine RunT.opg rfl rfl rfl rfl rfl rfl (by first | exact .lenL Try.underlying35 rfl rfl | exact .lenO Try.underlying35 rfl rfl | exact .lenV rfl (fun _ w => len_nil rfl Try.underlying35 w) rfl) ?_
    refine RunT.opg rfl rfl rfl rfl rfl rfl .move ?_
    refine RunT.opg rfl rfl rfl rfl rfl rfl (.bin rfl rfl (fun w => b_add' w (w64 (by omega) (by omega))) rfl) ?_
    refine RunT.opg rfl rfl rfl rfl rfl rfl (.bin rfl rfl (fun w => b_quo' w (by decide) (show IntKind.i64.wrap ((k + 7).tdiv 8) = (k + 7) / 8 from qd (by omega) (by omega))) rfl) ?_
    refine RunT.opg rfl rfl rfl rfl rfl rfl (.bin rfl rfl (fun w => b_add' w (w64 (by omega) (by omega))) rfl) ?_
    refine RunT.opg rfl rfl rfl rfl rfl rfl (.bin rfl rfl (fun w => b_eql w) rfl) ?_
    refine RunT.op0 rfl rfl rfl rfl (.pick rfl) ?_
    refine RunT.op0 rfl rfl rfl rfl .move ?_
    refine RunT.opg rfl rfl rfl (bo (decide_eq_true (by omega))) rfl rfl .move ?_
    refine RunT.opg rfl rfl rfl (bo (decide_eq_true (by omega))) rfl rfl (.bin rfl rfl (fun w => b_eql w) rfl) ?_
    refine RunT.op0 rfl rfl rfl rfl (.pick (bo (decide_eq_true (by omega)))) ?_
    refine RunT.op0 rfl rfl rfl rfl .move ?_
    refine RunT.opg rfl rfl rfl (bo (decide_eq_true rfl)) rfl rfl .move ?_
    refine RunT.opg rfl rfl rfl (bo (decide_eq_true rfl)) rfl rfl .move ?_
    refine RunT.callg rfl rfl rfl (bo (decide_eq_true rfl)) rfl rfl rfl rfl (rsb_pc m m (by omega)) (by repeat (first | exact trivial | refine ⟨?_, ?_⟩ | exact .one .v | exact .one .lst | exact .one .rptr | exact .one (.all rfl rfl) | exact .one .nil | exact .agg' (by repeat (first | exact trivial | refine ⟨?_, ?_⟩ | exact .v | exact .lst | exact .rptr | exact .all rfl rfl | exact .nil | exact .clo' trivial)) | exact .one (.clo' (by repeat (first | exact trivial | refine ⟨?_, ?_⟩ | exact .v | exact .lst | exact .rptr | exact .all rfl rfl | exact .nil | exact .clo' trivial))) | exact .one (.ptr' rfl (by repeat (first | exact trivial | refine ⟨?_, ?_⟩ | exact .v | exact .lst | exact .rptr | exact .all rfl rfl | exact .nil | exact .clo' trivial))) | exact .one (.own' rfl (by first | omega | (simp; done) | (simp; omega)) (by first | rw [List.drop_zero, List.take_of_length_le (by omega)] | (rw [List.drop_zero, List.take_of_length_le (by simp)]; simp; done) | (simp [List.take_append]; done) | (simp; omega))))) (Nat.le_of_ble_eq_true rfl) ?_
    refine RunT.op0 rfl rfl rfl rfl (.pick (bo (decide_eq_true rfl))) ?_
    refine RunT.op0 rfl rfl rfl rfl .move ?_
    refine RunT.opg rfl rfl rfl (bo (decide_eq_true rfl)) rfl rfl .move ?_
    refine RunT.opg rfl rfl rfl (bo (decide_eq_true rfl)) rfl rfl .move ?_
    refine RunT.opg rfl rfl rfl (bo (decide_eq_true rfl)) rfl rfl (.bin rfl rfl (fun w => b_add' w (w64 (by omega) (by omega))) rfl) ?_
    refine RunT.opg rfl rfl rfl (bo (decide_eq_true rfl)) rfl rfl .move ?_
    refine RunT.opg rfl rfl rfl (bo (decide_eq_true rfl)) rfl rfl (.bin rfl rfl (fun w => b_eql w) rfl) ?_
    refine RunT.op0 rfl rfl rfl rfl (.pick (bo (decide_eq_true rfl))) ?_
    refine RunT.op0 rfl rfl rfl rfl .move ?_
    refine RunT.opg rfl rfl rfl (bo (decide_eq_true (by omega))) rfl rfl .move ?_
    refine RunT.callg rfl rfl rfl (bo (decide_eq_true (by omega))) rfl rfl rfl rfl (cuts_pc m (by omega)) (by repeat (first | exact trivial | refine ⟨?_, ?_⟩ | exact .one .v | exact .one .lst | exact .one .rptr | exact .one (.all rfl rfl) | exact .one .nil | exact .agg' (by repeat (first | exact trivial | refine ⟨?_, ?_⟩ | exact .v | exact .lst | exact .rptr | exact .all rfl rfl | exact .nil | exact .clo' trivial)) | exact .one (.clo' (by repeat (first | exact trivial | refine ⟨?_, ?_⟩ | exact .v | exact .lst | exact .rptr | exact .all rfl rfl | exact .nil | exact .clo' trivial))) | exact .one (.ptr' rfl (by repeat (first | exact trivial | refine ⟨?_, ?_⟩ | exact .v | exact .lst | exact .rptr | exact .all rfl rfl | exact .nil | exact .clo' trivial))) | exact .one (.own' rfl (by first | omega | (simp; done) | (simp; omega)) (by first | rw [List.drop_zero, List.take_of_length_le (by omega)] | (rw [List.drop_zero, List.take_of_length_le (by simp)]; simp; done) | (simp [List.take_append]; done) | (simp; omega))))) (Nat.le_of_ble_eq_true rfl) ?_
    refine RunT.opg rfl rfl rfl (bo (decide_eq_true (by omega))) rfl rfl .move ?_
    refine RunT.opg rfl rfl rfl (bo (decide_eq_true (by omega))) rfl rfl (.bin rfl rfl (fun w => b_eql w) rfl) ?_
    refine RunT.op0 rfl rfl rfl rfl (.pick (bo (decide_eq_true (by omega)))) ?_
    refine RunT.op0 rfl rfl rfl rfl .assign ?_
    refine RunT.nil ?_
    refine T.ret ?_
    exact RetOk.v rfl rfl (by first | rfl | (simp; done))

set_option maxRecDepth 100000 in
theorem treeSizes_lifted (os : Os) (started : os.Started) (H : Type) (enc : TypeId × Value → H) :
    ReturnsInHanded {} Try.checked os 9 .any (Rows.treeSizesSpec.pre6 enc Try.prog Try.f9 Rows.treeSizesRow.domain false) (Rows.treeSizesSpec.post enc Try.prog Try.f9 false true false false) := by
  refine returnsInHanded_of_change (C := Try.checked) Try.own started (by kernel_rfl) Try.func9 (ChangeSpec.witness6 (enc := enc) (C := Try.checked) false ⟨#[], #[.slice none 0 0, .int .i64 0], []⟩ 8 (by kernel_rfl) (by kernel_rfl) (by kernel_rfl) (by kernel_rfl)) ?_
  intro W base args ds gs before hval0 hW hcnd _
  have hval : ∀ (j : Nat) t v, Try.f9.params[j]? = some t → args[j]? = some v → Value.okWide Try.prog W .any base t v := hval0
  have hW' := hW
  obtain ⟨p, q, hA0, hV, hpq, hfz, hnd⟩ := hW
  have hA : DataW.TrodAll enc Try.prog W 0 (fun _ => true) true Try.f9.params.toList args.toList ds p := hA0
  rw [Try.params9] at hA hval
  obtain ⟨v0, vs0, d0, ds0, p0, q0, hargs, rfl, rfl, h0, r0⟩ := trodAll_cons hA
  obtain ⟨v1, vs1, d1, ds1, p1, q1, rfl, rfl, rfl, h1, r1⟩ := trodAll_cons r0
  obtain ⟨rfl, rfl, rfl⟩ := trodAll_nil r1
  obtain rfl : args = #[v0, v1] := by cases args; simp_all
  obtain ⟨rfl, rfl⟩ := trodVars_none hV
  obtain ⟨a0, k0, x0⟩ := (o34).one Try.underlying34 rfl (fun l => .lst (l.map bS)) (fun _ => rfl) (hval 0 34 v0 rfl rfl) h0
  obtain ⟨a1, k1, x1⟩ := (o3).one Try.underlying3 rfl (fun n => .v (.int .i64 n)) (fun _ => rfl) (hval 1 3 v1 rfl rfl) h1
  exact PC.row Try.laidOut (sizes_pc a0 a1 (by have := k0.1; simp [maxLen] at this; omega)) rfl (vrs_arr (vrs_cons x0 (vrs_cons x1 (vrs_nil)))) hW' rfl rfl (by kernel_rfl) rfl Try.underlying4
theorem TreeSizes_holds : Rows.TreeSizesSaid :=
  OpenClaim.holds_of_wide 9 Try.f9 rfl rfl rfl rfl rfl rfl rfl ⟨rfl, rfl, rfl, rfl, rfl⟩ rfl rfl rfl rfl rfl (by kernel_rfl) Try.func9 (by kernel_rfl)
    (of_decide_eq_true (by kernel_rfl)) (by unfold Func.isWrapper; first | (rw [if_pos (by decide +kernel)]; kernel_rfl) | (rw [if_neg (by decide +kernel)]; exact ⟨rfl, rfl⟩))
    (fun os started H enc _ => treeSizes_lifted os started H enc)
end Go.Proofs.Ytijfhnpmdhonhaa
