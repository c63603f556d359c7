/- TreeAsks: the law TreeAsks of the given program returns true at every input, and the input reads as before. No condition. -/
import Derived.Test.YtijfhnpmdhonhaaMG2
import Derived.Test.YtijfhnpmdhonhaaRows
import Derived.ProofKit
set_option linter.unusedVariables false
set_option linter.unusedSimpArgs false
set_option maxRecDepth 100000
namespace Go.Proofs.Ytijfhnpmdhonhaa
open Go Go.Sh Go.ChangeShapes Go.WideShapes Go.ChangeAt Go.RowKit
attribute [local irreducible] Go.Sh.T Go.Sh.RunT Go.Sh.RunD
theorem Try.own : ownKnob Try.prog.godebug = none := by kernel_rfl
theorem Try.laidOut : laidOutB Try.prog = true := by kernel_rfl
theorem asks_pc (l m : List Bool) (b : List Int) (hB : Byt b) : PC Try.prog false 7 [.lst (l.map bS), .lst (m.map bS), .lst (b.map b8)] (.v (.bool (true))) := by
  have hll : (l.map bS).length = l.length := List.length_map ..
  have hlm : (m.map bS).length = m.length := List.length_map ..
  have hlb : (b.map b8).length = b.length := List.length_map ..
  refine PC.of_T Try.func7 rfl rfl (n := 104) rfl rfl (.inr rfl) ?_
  intro base B w0
  refine T.seq ?_
  refine T.region ?_
  refine RunT.op0 rfl rfl rfl rfl .assign ?_
  refine RunT.nil ?_
  refine T.seq ?_
  refine T.seq ?_
  refine T.region ?_
  refine RunT.op0 rfl rfl rfl rfl .move ?_
  refine RunT.op0 rfl rfl rfl rfl (by first | exact .lenL Try.underlying34 rfl rfl | exact .lenO Try.underlying34 rfl rfl | exact .lenV rfl (fun _ w => len_nil rfl Try.underlying34 w) rfl) ?_
  refine RunT.op0 rfl rfl rfl rfl (.bin rfl rfl (fun w => b_gtr w) rfl) ?_
  refine RunT.op0 rfl rfl rfl rfl .move ?_
  refine RunT.cases (t := 18) rfl (fun g18 => ?_) (fun g18 => ?_)
  · have g18p := g18; (try simp only [decide_eq_true_eq, decide_eq_false_iff_not, Bool.not_eq_true', Bool.not_eq_false', Bool.and_eq_true, Bool.or_eq_true] at g18p)
    refine RunT.no rfl rfl rfl (bo g18) rfl ?_
    refine RunT.no rfl rfl rfl (bo g18) rfl ?_
    refine RunT.no rfl rfl rfl (bo g18) rfl ?_
    refine RunT.op0 rfl rfl rfl rfl (.pick (bo g18)) ?_
    refine RunT.op0 rfl rfl rfl rfl .move ?_
    refine RunT.no rfl rfl rfl rfl rfl ?_
    refine RunT.no rfl rfl rfl rfl rfl ?_
    refine RunT.no rfl rfl rfl rfl rfl ?_
    refine RunT.op0 rfl rfl rfl rfl (.pick rfl) ?_
    refine RunT.nil ?_
    refine T.condT rfl ?_
    refine T.seq ?_
    refine T.region ?_
    refine RunT.call0 rfl rfl rfl rfl rfl rfl (told_pc) (by repeat (first | exact trivial | refine ⟨?_, ?_⟩ | exact .one .v | exact .one .lst | exact .one .rptr | exact .one (.all rfl rfl) | exact .one .nil | exact .agg' (by repeat (first | exact trivial | refine ⟨?_, ?_⟩ | exact .v | exact .lst | exact .rptr | exact .all rfl rfl | exact .nil | exact .clo' trivial)) | exact .one (.clo' (by repeat (first | exact trivial | refine ⟨?_, ?_⟩ | exact .v | exact .lst | exact .rptr | exact .all rfl rfl | exact .nil | exact .clo' trivial))) | exact .one (.ptr' rfl (by repeat (first | exact trivial | refine ⟨?_, ?_⟩ | exact .v | exact .lst | exact .rptr | exact .all rfl rfl | exact .nil | exact .clo' trivial))) | exact .one (.own' rfl (by first | omega | (simp; done) | (simp; omega)) (by first | rw [List.drop_zero, List.take_of_length_le (by omega)] | (rw [List.drop_zero, List.take_of_length_le (by simp)]; simp; done) | (simp [List.take_append]; done) | (simp; omega))))) (Nat.le_of_ble_eq_true rfl) ?_
    refine RunT.op0 rfl rfl rfl rfl .assign ?_
    refine RunT.nil ?_
    refine T.ret ?_
    exact RetOk.v rfl rfl (by first | rfl | (simp; done))
  · have g18p := g18; (try simp only [decide_eq_true_eq, decide_eq_false_iff_not, Bool.not_eq_true', Bool.not_eq_false', Bool.and_eq_true, Bool.or_eq_true] at g18p)
    refine RunT.opg rfl rfl rfl (bo g18) rfl rfl .move ?_
    refine RunT.opg rfl rfl rfl (bo g18) rfl rfl (by first | exact .lenL Try.underlying34 rfl rfl | exact .lenO Try.underlying34 rfl rfl | exact .lenV rfl (fun _ w => len_nil rfl Try.underlying34 w) rfl) ?_
    refine RunT.opg rfl rfl rfl (bo g18) rfl rfl (.bin rfl rfl (fun w => b_gtr w) rfl) ?_
    refine RunT.op0 rfl rfl rfl rfl (.pick (bo g18)) ?_
    refine RunT.op0 rfl rfl rfl rfl .move ?_
    refine RunT.cases (t := 23) rfl (fun g23 => ?_) (fun g23 => ?_)
    · have g23p := g23; (try simp only [decide_eq_true_eq, decide_eq_false_iff_not, Bool.not_eq_true', Bool.not_eq_false', Bool.and_eq_true, Bool.or_eq_true] at g23p)
      refine RunT.no rfl rfl rfl (bo g23) rfl ?_
      refine RunT.no rfl rfl rfl (bo g23) rfl ?_
      refine RunT.no rfl rfl rfl (bo g23) rfl ?_
      refine RunT.op0 rfl rfl rfl rfl (.pick (bo g23)) ?_
      refine RunT.nil ?_
      refine T.condT rfl ?_
      refine T.seq ?_
      refine T.region ?_
      refine RunT.call0 rfl rfl rfl rfl rfl rfl (told_pc) (by repeat (first | exact trivial | refine ⟨?_, ?_⟩ | exact .one .v | exact .one .lst | exact .one .rptr | exact .one (.all rfl rfl) | exact .one .nil | exact .agg' (by repeat (first | exact trivial | refine ⟨?_, ?_⟩ | exact .v | exact .lst | exact .rptr | exact .all rfl rfl | exact .nil | exact .clo' trivial)) | exact .one (.clo' (by repeat (first | exact trivial | refine ⟨?_, ?_⟩ | exact .v | exact .lst | exact .rptr | exact .all rfl rfl | exact .nil | exact .clo' trivial))) | exact .one (.ptr' rfl (by repeat (first | exact trivial | refine ⟨?_, ?_⟩ | exact .v | exact .lst | exact .rptr | exact .all rfl rfl | exact .nil | exact .clo' trivial))) | exact .one (.own' rfl (by first | omega | (simp; done) | (simp; omega)) (by first | rw [List.drop_zero, List.take_of_length_le (by omega)] | (rw [List.drop_zero, List.take_of_length_le (by simp)]; simp; done) | (simp [List.take_append]; done) | (simp; omega))))) (Nat.le_of_ble_eq_true rfl) ?_
      refine RunT.op0 rfl rfl rfl rfl .assign ?_
      refine RunT.nil ?_
      refine T.ret ?_
      exact RetOk.v rfl rfl (by first | rfl | (simp; done))
    · have g23p := g23; (try simp only [decide_eq_true_eq, decide_eq_false_iff_not, Bool.not_eq_true', Bool.not_eq_false', Bool.and_eq_true, Bool.or_eq_true] at g23p)
      refine RunT.opg rfl rfl rfl (bo g23) rfl rfl .move ?_
      refine RunT.opg rfl rfl rfl (bo g23) rfl rfl (by first | exact .lenL Try.underlying35 rfl rfl | exact .lenO Try.underlying35 rfl rfl | exact .lenV rfl (fun _ w => len_nil rfl Try.underlying35 w) rfl) ?_
      refine RunT.opg rfl rfl rfl (bo g23) rfl rfl (.bin rfl rfl (fun w => b_gtr w) rfl) ?_
      refine RunT.op0 rfl rfl rfl rfl (.pick (bo g23)) ?_
      refine RunT.nil ?_
      refine T.cond2 rfl (fun c27 => ?_) (fun c27 => ?_)
      · have c27p := c27; (try simp only [decide_eq_true_eq, decide_eq_false_iff_not, Bool.not_eq_true', Bool.not_eq_false', Bool.and_eq_true, Bool.or_eq_true] at c27p)
        refine T.seq ?_
        refine T.region ?_
        refine RunT.call0 rfl rfl rfl rfl rfl rfl (told_pc) (by repeat (first | exact trivial | refine ⟨?_, ?_⟩ | exact .one .v | exact .one .lst | exact .one .rptr | exact .one (.all rfl rfl) | exact .one .nil | exact .agg' (by repeat (first | exact trivial | refine ⟨?_, ?_⟩ | exact .v | exact .lst | exact .rptr | exact .all rfl rfl | exact .nil | exact .clo' trivial)) | exact .one (.clo' (by repeat (first | exact trivial | refine ⟨?_, ?_⟩ | exact .v | exact .lst | exact .rptr | exact .all rfl rfl | exact .nil | exact .clo' trivial))) | exact .one (.ptr' rfl (by repeat (first | exact trivial | refine ⟨?_, ?_⟩ | exact .v | exact .lst | exact .rptr | exact .all rfl rfl | exact .nil | exact .clo' trivial))) | exact .one (.own' rfl (by first | omega | (simp; done) | (simp; omega)) (by first | rw [List.drop_zero, List.take_of_length_le (by omega)] | (rw [List.drop_zero, List.take_of_length_le (by simp)]; simp; done) | (simp [List.take_append]; done) | (simp; omega))))) (Nat.le_of_ble_eq_true rfl) ?_
        refine RunT.op0 rfl rfl rfl rfl .assign ?_
        refine RunT.nil ?_
        refine T.ret ?_
        exact RetOk.v rfl rfl (by first | rfl | (simp; done))
      · have c27p := c27; (try simp only [decide_eq_true_eq, decide_eq_false_iff_not, Bool.not_eq_true', Bool.not_eq_false', Bool.and_eq_true, Bool.or_eq_true] at c27p)
        refine T.skip ?_
        refine T.seq ?_
        refine T.region ?_
        refine RunT.op0 rfl rfl rfl rfl .assign ?_
        refine RunT.nil ?_
        refine T.seq ?_
        refine T.seq ?_
        refine T.region ?_
        refine RunT.op0 rfl rfl rfl rfl .assign ?_
        refine RunT.nil ?_
        refine T.block ?_
        refine T.loopS (fun n s => ∃ i : Int, ∃ y : Int, n = ((l.length : Int) - i).toNat ∧ 0 ≤ i ∧ i ≤ (l.length : Int) ∧ y = cnt true (l.take i.toNat) ∧ 0 ≤ y ∧ y ≤ i ∧ s = ⟨[(0, .lst (l.map bS)), (1, .lst (m.map bS)), (2, .lst (b.map b8)), (7, .v (.int .i64 y)), (8, .v (.int .i64 i))], [], 0, []⟩) (_) ⟨_, ⟨0, 0, rfl, by omega, by omega, rfl, by omega, by omega, rfl⟩, (sub_of (fun b => b) rfl (by repeat (first | exact trivial | exact ⟨rfl, rfl⟩ | refine ⟨?_, ?_⟩)) (by repeat (first | exact trivial | exact ⟨rfl, rfl, trivial⟩ | exact ⟨rfl, rfl, rfl⟩ | refine ⟨?_, ?_⟩)) (fun _ _ _ _ _ _ h => h))⟩ ?_
        rintro n s ⟨i, y, rfl, h0, h1, hy, h3, h4, rfl⟩
        refine T.seq ?_
        refine T.seq ?_
        refine T.region ?_
        refine RunT.op0 rfl rfl rfl rfl .move ?_
        refine RunT.op0 rfl rfl rfl rfl .move ?_
        refine RunT.op0 rfl rfl rfl rfl (by first | exact .lenL Try.underlying34 rfl rfl | exact .lenO Try.underlying34 rfl rfl | exact .lenV rfl (fun _ w => len_nil rfl Try.underlying34 w) rfl) ?_
        refine RunT.op0 rfl rfl rfl rfl (.bin rfl rfl (fun w => b_lss w) rfl) ?_
        refine RunT.nil ?_
        refine T.cond2 rfl (fun c32 => ?_) (fun c32 => ?_)
        · have c32p := c32; (try simp only [decide_eq_true_eq, decide_eq_false_iff_not, Bool.not_eq_true', Bool.not_eq_false', Bool.and_eq_true, Bool.or_eq_true] at c32p)
          refine T.skip ?_
          refine T.seq ?_
          refine T.block ?_
          refine T.seq ?_
          obtain ⟨p, hp, hx⟩ := gm (l := l) (f := bS) h0 (by omega)
          refine T.region ?_
          refine RunT.op0 rfl rfl rfl rfl .move ?_
          refine RunT.op0 rfl rfl rfl rfl .move ?_
          refine RunT.op0 rfl rfl rfl rfl (by first | exact .idxL sl34 rfl rfl (by omega) (by assumption) rfl | exact .idxO sl34 rfl rfl rfl (by omega) (by omega)) ?_
          refine RunT.op0 rfl rfl rfl rfl (by first | exact .loadP ty4 rfl rfl rfl | exact .loadR ty4 rfl rfl | exact .loadE ty4 rfl rfl (by assumption) rfl) ?_
          refine RunT.nil ?_
          refine T.cond2 rfl (fun c38 => ?_) (fun c38 => ?_)
          · have c38p := c38; (try simp only [decide_eq_true_eq, decide_eq_false_iff_not, Bool.not_eq_true', Bool.not_eq_false', Bool.and_eq_true, Bool.or_eq_true] at c38p)
            refine T.region ?_
            refine RunT.op0 rfl rfl rfl rfl .move ?_
            refine RunT.op0 rfl rfl rfl rfl (.bin rfl rfl (fun w => b_add' w (w64 (by omega) (by omega))) rfl) ?_
            refine RunT.op0 rfl rfl rfl rfl .assign ?_
            refine RunT.nil ?_
            refine T.region ?_
            refine RunT.op0 rfl rfl rfl rfl .move ?_
            refine RunT.op0 rfl rfl rfl rfl (.bin rfl rfl (fun w => b_add' w (w64 (by omega) (by omega))) rfl) ?_
            refine RunT.op0 rfl rfl rfl rfl .assign ?_
            refine RunT.nil ?_
            subst c38
            first
              | exact ⟨((l.length : Int) - (i + 1)).toNat, by omega, _, ⟨i + 1, y + 1, rfl, by omega, by omega, by rw [cnt_take h0 hp, hy]; rfl, by omega, by omega, rfl⟩, (sub_of (fun b => b) rfl (by repeat (first | exact trivial | exact ⟨rfl, rfl⟩ | refine ⟨?_, ?_⟩)) (by repeat (first | exact trivial | exact ⟨rfl, rfl, trivial⟩ | exact ⟨rfl, rfl, rfl⟩ | refine ⟨?_, ?_⟩)) (fun _ _ _ _ _ _ h => h))⟩
              | exact ⟨((l.length : Int) - (i + 1)).toNat, by omega, _, ⟨i + 1, y, rfl, by omega, by omega, by rw [cnt_take h0 hp, hy]; simp, by omega, by omega, rfl⟩, (sub_of (fun b => b) rfl (by repeat (first | exact trivial | exact ⟨rfl, rfl⟩ | refine ⟨?_, ?_⟩)) (by repeat (first | exact trivial | exact ⟨rfl, rfl, trivial⟩ | exact ⟨rfl, rfl, rfl⟩ | refine ⟨?_, ?_⟩)) (fun _ _ _ _ _ _ h => h))⟩
          · have c38p := c38; (try simp only [decide_eq_true_eq, decide_eq_false_iff_not, Bool.not_eq_true', Bool.not_eq_false', Bool.and_eq_true, Bool.or_eq_true] at c38p)
            refine T.skip ?_
            refine T.region ?_
            refine RunT.op0 rfl rfl rfl rfl .move ?_
            refine RunT.op0 rfl rfl rfl rfl (.bin rfl rfl (fun w => b_add' w (w64 (by omega) (by omega))) rfl) ?_
            refine RunT.op0 rfl rfl rfl rfl .assign ?_
            refine RunT.nil ?_
            subst c38
            first
              | exact ⟨((l.length : Int) - (i + 1)).toNat, by omega, _, ⟨i + 1, y + 1, rfl, by omega, by omega, by rw [cnt_take h0 hp, hy]; rfl, by omega, by omega, rfl⟩, (sub_of (fun b => b) rfl (by repeat (first | exact trivial | exact ⟨rfl, rfl⟩ | refine ⟨?_, ?_⟩)) (by repeat (first | exact trivial | exact ⟨rfl, rfl, trivial⟩ | exact ⟨rfl, rfl, rfl⟩ | refine ⟨?_, ?_⟩)) (fun _ _ _ _ _ _ h => h))⟩
              | exact ⟨((l.length : Int) - (i + 1)).toNat, by omega, _, ⟨i + 1, y, rfl, by omega, by omega, by rw [cnt_take h0 hp, hy]; simp, by omega, by omega, rfl⟩, (sub_of (fun b => b) rfl (by repeat (first | exact trivial | exact ⟨rfl, rfl⟩ | refine ⟨?_, ?_⟩)) (by repeat (first | exact trivial | exact ⟨rfl, rfl, trivial⟩ | exact ⟨rfl, rfl, rfl⟩ | refine ⟨?_, ?_⟩)) (fun _ _ _ _ _ _ h => h))⟩
        · have c32p := c32; (try simp only [decide_eq_true_eq, decide_eq_false_iff_not, Bool.not_eq_true', Bool.not_eq_false', Bool.and_eq_true, Bool.or_eq_true] at c32p)
          refine T.exit ?_
          refine T.seq ?_
          have hyy : y = cnt true l := by rw [hy, take_all (by omega)]
          have hcs := cnt_sum l
          refine T.region ?_
          refine RunT.op0 rfl rfl rfl rfl .move ?_
          refine RunT.call0 rfl rfl rfl rfl rfl rfl (size_pc l (by omega)) (by repeat (first | exact trivial | refine ⟨?_, ?_⟩ | exact .one .v | exact .one .lst | exact .one .rptr | exact .one (.all rfl rfl) | exact .one .nil | exact .agg' (by repeat (first | exact trivial | refine ⟨?_, ?_⟩ | exact .v | exact .lst | exact .rptr | exact .all rfl rfl | exact .nil | exact .clo' trivial)) | exact .one (.clo' (by repeat (first | exact trivial | refine ⟨?_, ?_⟩ | exact .v | exact .lst | exact .rptr | exact .all rfl rfl | exact .nil | exact .clo' trivial))) | exact .one (.ptr' rfl (by repeat (first | exact trivial | refine ⟨?_, ?_⟩ | exact .v | exact .lst | exact .rptr | exact .all rfl rfl | exact .nil | exact .clo' trivial))) | exact .one (.own' rfl (by first | omega | (simp; done) | (simp; omega)) (by first | rw [List.drop_zero, List.take_of_length_le (by omega)] | (rw [List.drop_zero, List.take_of_length_le (by simp)]; simp; done) | (simp [List.take_append]; done) | (simp; omega))))) (Nat.le_of_ble_eq_true rfl) ?_
          refine RunT.op0 rfl rfl rfl rfl .move ?_
          refine RunT.op0 rfl rfl rfl rfl (.extract rfl rfl) ?_
          refine RunT.op0 rfl rfl rfl rfl (.extract rfl rfl) ?_
          refine RunT.op0 rfl rfl rfl rfl .assign ?_
          refine RunT.op0 rfl rfl rfl rfl .assign ?_
          refine RunT.nil ?_
          refine T.seq ?_
          refine T.region ?_
          refine RunT.op0 rfl rfl rfl rfl .move ?_
          refine RunT.call0 rfl rfl rfl rfl rfl rfl (from_pc b hB (by omega)) (by repeat (first | exact trivial | refine ⟨?_, ?_⟩ | exact .one .v | exact .one .lst | exact .one .rptr | exact .one (.all rfl rfl) | exact .one .nil | exact .agg' (by repeat (first | exact trivial | refine ⟨?_, ?_⟩ | exact .v | exact .lst | exact .rptr | exact .all rfl rfl | exact .nil | exact .clo' trivial)) | exact .one (.clo' (by repeat (first | exact trivial | refine ⟨?_, ?_⟩ | exact .v | exact .lst | exact .rptr | exact .all rfl rfl | exact .nil | exact .clo' trivial))) | exact .one (.ptr' rfl (by repeat (first | exact trivial | refine ⟨?_, ?_⟩ | exact .v | exact .lst | exact .rptr | exact .all rfl rfl | exact .nil | exact .clo' trivial))) | exact .one (.own' rfl (by first | omega | (simp; done) | (simp; omega)) (by first | rw [List.drop_zero, List.take_of_length_le (by omega)] | (rw [List.drop_zero, List.take_of_length_le (by simp)]; simp; done) | (simp [List.take_append]; done) | (simp; omega))))) (Nat.le_of_ble_eq_true rfl) ?_
          refine RunT.op0 rfl rfl rfl rfl .move ?_
          refine RunT.op0 rfl rfl rfl rfl (.extract rfl rfl) ?_
          refine RunT.op0 rfl rfl rfl rfl (.extract rfl rfl) ?_
          refine RunT.op0 rfl rfl rfl rfl .assign ?_
          refine RunT.op0 rfl rfl rfl rfl .assign ?_
          refine RunT.nil ?_
          refine T.seq ?_
          refine T.region ?_
          refine RunT.op0 rfl rfl rfl rfl .move ?_
          refine RunT.op0 rfl rfl rfl rfl (.toStr (d := false) (ns := b) Try.underlying35 Try.underlying5 Try.underlying9 rfl (.lst Try.underlying35 (bC _))) ?_
          refine RunT.call0 rfl rfl rfl rfl rfl rfl (rfrom_pc b hB (by omega)) (by repeat (first | exact trivial | refine ⟨?_, ?_⟩ | exact .one .v | exact .one .lst | exact .one .rptr | exact .one (.all rfl rfl) | exact .one .nil | exact .agg' (by repeat (first | exact trivial | refine ⟨?_, ?_⟩ | exact .v | exact .lst | exact .rptr | exact .all rfl rfl | exact .nil | exact .clo' trivial)) | exact .one (.clo' (by repeat (first | exact trivial | refine ⟨?_, ?_⟩ | exact .v | exact .lst | exact .rptr | exact .all rfl rfl | exact .nil | exact .clo' trivial))) | exact .one (.ptr' rfl (by repeat (first | exact trivial | refine ⟨?_, ?_⟩ | exact .v | exact .lst | exact .rptr | exact .all rfl rfl | exact .nil | exact .clo' trivial))) | exact .one (.own' rfl (by first | omega | (simp; done) | (simp; omega)) (by first | rw [List.drop_zero, List.take_of_length_le (by omega)] | (rw [List.drop_zero, List.take_of_length_le (by simp)]; simp; done) | (simp [List.take_append]; done) | (simp; omega))))) (Nat.le_of_ble_eq_true rfl) ?_
          refine RunT.op0 rfl rfl rfl rfl .move ?_
          refine RunT.op0 rfl rfl rfl rfl (.extract rfl rfl) ?_
          refine RunT.op0 rfl rfl rfl rfl (.extract rfl rfl) ?_
          refine RunT.op0 rfl rfl rfl rfl .assign ?_
          refine RunT.op0 rfl rfl rfl rfl .assign ?_
          refine RunT.nil ?_
          refine T.seq ?_
          refine T.draw (wr := []) mixed rfl rfl ?_ rfl
          refine RunD.call0 rfl rfl rfl rfl rfl (told_pc) (by repeat (first | exact trivial | refine ⟨?_, ?_⟩ | exact .one .v | exact .one .lst | exact .one .rptr | exact .one (.all rfl rfl) | exact .one .nil | exact .agg' (by repeat (first | exact trivial | refine ⟨?_, ?_⟩ | exact .v | exact .lst | exact .rptr | exact .all rfl rfl | exact .nil | exact .clo' trivial)) | exact .one (.clo' (by repeat (first | exact trivial | refine ⟨?_, ?_⟩ | exact .v | exact .lst | exact .rptr | exact .all rfl rfl | exact .nil | exact .clo' trivial))) | exact .one (.ptr' rfl (by repeat (first | exact trivial | refine ⟨?_, ?_⟩ | exact .v | exact .lst | exact .rptr | exact .all rfl rfl | exact .nil | exact .clo' trivial))) | exact .one (.own' rfl (by first | omega | (simp; done) | (simp; omega)) (by first | rw [List.drop_zero, List.take_of_length_le (by omega)] | (rw [List.drop_zero, List.take_of_length_le (by simp)]; simp; done) | (simp [List.take_append]; done) | (simp; omega))))) (Nat.le_of_ble_eq_true rfl) rfl ?_
          refine RunD.op0 rfl rfl rfl .move rfl ?_
          refine RunD.opg rfl rfl rfl rfl rfl .move rfl ?_
          refine RunD.callg rfl rfl rfl rfl rfl rfl rfl (bytes_pc l (by omega)) (by repeat (first | exact trivial | refine ⟨?_, ?_⟩ | exact .one .v | exact .one .lst | exact .one .rptr | exact .one (.all rfl rfl) | exact .one .nil | exact .agg' (by repeat (first | exact trivial | refine ⟨?_, ?_⟩ | exact .v | exact .lst | exact .rptr | exact .all rfl rfl | exact .nil | exact .clo' trivial)) | exact .one (.clo' (by repeat (first | exact trivial | refine ⟨?_, ?_⟩ | exact .v | exact .lst | exact .rptr | exact .all rfl rfl | exact .nil | exact .clo' trivial))) | exact .one (.ptr' rfl (by repeat (first | exact trivial | refine ⟨?_, ?_⟩ | exact .v | exact .lst | exact .rptr | exact .all rfl rfl | exact .nil | exact .clo' trivial))) | exact .one (.own' rfl (by first | omega | (simp; done) | (simp; omega)) (by first | rw [List.drop_zero, List.take_of_length_le (by omega)] | (rw [List.drop_zero, List.take_of_length_le (by simp)]; simp; done) | (simp [List.take_append]; done) | (simp; omega))))) (Nat.le_of_ble_eq_true rfl) rfl ?_
          refine RunD.opg rfl rfl rfl rfl rfl (.toStr (d := false) (ns := bytesOf l) Try.underlying35 Try.underlying5 Try.underlying9 rfl (.own Try.underlying35 rfl (Nat.le_of_eq (Nat.zero_add _)) List.take_length (fun h => by cases h))) rfl ?_
          refine RunD.opg rfl rfl rfl rfl rfl .move rfl ?_
          refine RunD.callg rfl rfl rfl rfl rfl rfl rfl (rbytes_pc l (by omega)) (by repeat (first | exact trivial | refine ⟨?_, ?_⟩ | exact .one .v | exact .one .lst | exact .one .rptr | exact .one (.all rfl rfl) | exact .one .nil | exact .agg' (by repeat (first | exact trivial | refine ⟨?_, ?_⟩ | exact .v | exact .lst | exact .rptr | exact .all rfl rfl | exact .nil | exact .clo' trivial)) | exact .one (.clo' (by repeat (first | exact trivial | refine ⟨?_, ?_⟩ | exact .v | exact .lst | exact .rptr | exact .all rfl rfl | exact .nil | exact .clo' trivial))) | exact .one (.ptr' rfl (by repeat (first | exact trivial | refine ⟨?_, ?_⟩ | exact .v | exact .lst | exact .rptr | exact .all rfl rfl | exact .nil | exact .clo' trivial))) | exact .one (.own' rfl (by first | omega | (simp; done) | (simp; omega)) (by first | rw [List.drop_zero, List.take_of_length_le (by omega)] | (rw [List.drop_zero, List.take_of_length_le (by simp)]; simp; done) | (simp [List.take_append]; done) | (simp; omega))))) (Nat.le_of_ble_eq_true rfl) rfl ?_
          refine RunD.opg rfl rfl rfl rfl rfl (.bin rfl rfl (fun w => eqStr w) rfl) rfl ?_
          refine RunD.op0 rfl rfl rfl (.pick rfl) rfl ?_
          refine RunD.op0 rfl rfl rfl .move rfl ?_
          refine RunD.opg rfl rfl rfl (bo (by rw [MapKept.bytes_beq])) rfl .move rfl ?_
          refine RunD.opg rfl rfl rfl (bo (by rw [MapKept.bytes_beq])) rfl .move rfl ?_
          refine RunD.opg rfl rfl rfl (bo (by rw [MapKept.bytes_beq])) rfl (.bin rfl rfl (fun w => b_eql w) rfl) rfl ?_
          refine RunD.op0 rfl rfl rfl (.pick (bo (by rw [MapKept.bytes_beq]))) rfl ?_
          refine RunD.op0 rfl rfl rfl .move rfl ?_
          refine RunD.opg rfl rfl rfl (bo (decide_eq_true hyy.symm)) rfl .move rfl ?_
          refine RunD.opg rfl rfl rfl (bo (decide_eq_true hyy.symm)) rfl .move rfl ?_
          refine RunD.opg rfl rfl rfl (bo (decide_eq_true hyy.symm)) rfl (by first | exact .lenL Try.underlying34 rfl rfl | exact .lenO Try.underlying34 rfl rfl | exact .lenV rfl (fun _ w => len_nil rfl Try.underlying34 w) rfl) rfl ?_
          refine RunD.opg rfl rfl rfl (bo (decide_eq_true hyy.symm)) rfl .move rfl ?_
          refine RunD.opg rfl rfl rfl (bo (decide_eq_true hyy.symm)) rfl (.bin rfl rfl (fun w => b_sub' w (w64 (by omega) (by omega))) rfl) rfl ?_
          refine RunD.opg rfl rfl rfl (bo (decide_eq_true hyy.symm)) rfl (.bin rfl rfl (fun w => b_eql w) rfl) rfl ?_
          refine RunD.op0 rfl rfl rfl (.pick (bo (decide_eq_true hyy.symm))) rfl ?_
          refine RunD.op0 rfl rfl rfl .move rfl ?_
          refine RunD.opg rfl rfl rfl (bo (decide_eq_true (by omega))) rfl .move rfl ?_
          refine RunD.callg rfl rfl rfl (bo (decide_eq_true (by omega))) rfl rfl rfl (cuts_pc l (by omega)) (by repeat (first | exact trivial | refine ⟨?_, ?_⟩ | exact .one .v | exact .one .lst | exact .one .rptr | exact .one (.all rfl rfl) | exact .one .nil | exact .agg' (by repeat (first | exact trivial | refine ⟨?_, ?_⟩ | exact .v | exact .lst | exact .rptr | exact .all rfl rfl | exact .nil | exact .clo' trivial)) | exact .one (.clo' (by repeat (first | exact trivial | refine ⟨?_, ?_⟩ | exact .v | exact .lst | exact .rptr | exact .all rfl rfl | exact .nil | exact .clo' trivial))) | exact .one (.ptr' rfl (by repeat (first | exact trivial | refine ⟨?_, ?_⟩ | exact .v | exact .lst | exact .rptr | exact .all rfl rfl | exact .nil | exact .clo' trivial))) | exact .one (.own' rfl (by first | omega | (simp; done) | (simp; omega)) (by first | rw [List.drop_zero, List.take_of_length_le (by omega)] | (rw [List.drop_zero, List.take_of_length_le (by simp)]; simp; done) | (simp [List.take_append]; done) | (simp; omega))))) (Nat.le_of_ble_eq_true rfl) rfl ?_
          refine RunD.opg rfl rfl rfl (bo (decide_eq_true (by omega))) rfl .move rfl ?_
          refine RunD.opg rfl rfl rfl (bo (decide_eq_true (by omega))) rfl (.bin rfl rfl (fun w => b_eql w) rfl) rfl ?_
          refine RunD.op0 rfl rfl rfl (.pick (bo (decide_eq_true (by omega)))) rfl ?_
          refine RunD.op0 rfl rfl rfl .move rfl ?_
          refine RunD.opg rfl rfl rfl (bo (decide_eq_true rfl)) rfl .move rfl ?_
          refine RunD.opg rfl rfl rfl (bo (decide_eq_true rfl)) rfl .move rfl ?_
          refine RunD.opg rfl rfl rfl (bo (decide_eq_true rfl)) rfl (.bin rfl rfl (fun w => b_eql w) rfl) rfl ?_
          refine RunD.op0 rfl rfl rfl (.pick (bo (decide_eq_true rfl))) rfl ?_
          refine RunD.op0 rfl rfl rfl .move rfl ?_
          refine RunD.opg rfl rfl rfl (bo (decide_eq_true rfl)) rfl .move rfl ?_
          refine RunD.opg rfl rfl rfl (bo (decide_eq_true rfl)) rfl .move rfl ?_
          refine RunD.callg rfl rfl rfl (bo (decide_eq_true rfl)) rfl rfl rfl (rsb_pc (fromR b).1 (fromR b).1 (by have := fromR_short (b := b); omega)) (by repeat (first | exact trivial | refine ⟨?_, ?_⟩ | exact .one .v | exact .one .lst | exact .one .rptr | exact .one (.all rfl rfl) | exact .one .nil | exact .agg' (by repeat (first | exact trivial | refine ⟨?_, ?_⟩ | exact .v | exact .lst | exact .rptr | exact .all rfl rfl | exact .nil | exact .clo' trivial)) | exact .one (.clo' (by repeat (first | exact trivial | refine ⟨?_, ?_⟩ | exact .v | exact .lst | exact .rptr | exact .all rfl rfl | exact .nil | exact .clo' trivial))) | exact .one (.ptr' rfl (by repeat (first | exact trivial | refine ⟨?_, ?_⟩ | exact .v | exact .lst | exact .rptr | exact .all rfl rfl | exact .nil | exact .clo' trivial))) | exact .one (.own' rfl (by first | omega | (simp; done) | (simp; omega)) (by first | rw [List.drop_zero, List.take_of_length_le (by omega)] | (rw [List.drop_zero, List.take_of_length_le (by simp)]; simp; done) | (simp [List.take_append]; done) | (simp; omega))))) (Nat.le_of_ble_eq_true rfl) rfl ?_
          refine RunD.op0 rfl rfl rfl (.pick (bo (decide_eq_true rfl))) rfl ?_
          refine RunD.op0 rfl rfl rfl .move rfl ?_
          refine RunD.opg rfl rfl rfl (bo (decide_eq_true rfl)) rfl .move rfl ?_
          refine RunD.opg rfl rfl rfl (bo (decide_eq_true rfl)) rfl .move rfl ?_
          refine RunD.callg rfl rfl rfl (bo (decide_eq_true rfl)) rfl rfl rfl (tsame_pc l m (by omega)) (by repeat (first | exact trivial | refine ⟨?_, ?_⟩ | exact .one .v | exact .one .lst | exact .one .rptr | exact .one (.all rfl rfl) | exact .one .nil | exact .agg' (by repeat (first | exact trivial | refine ⟨?_, ?_⟩ | exact .v | exact .lst | exact .rptr | exact .all rfl rfl | exact .nil | exact .clo' trivial)) | exact .one (.clo' (by repeat (first | exact trivial | refine ⟨?_, ?_⟩ | exact .v | exact .lst | exact .rptr | exact .all rfl rfl | exact .nil | exact .clo' trivial))) | exact .one (.ptr' rfl (by repeat (first | exact trivial | refine ⟨?_, ?_⟩ | exact .v | exact .lst | exact .rptr | exact .all rfl rfl | exact .nil | exact .clo' trivial))) | exact .one (.own' rfl (by first | omega | (simp; done) | (simp; omega)) (by first | rw [List.drop_zero, List.take_of_length_le (by omega)] | (rw [List.drop_zero, List.take_of_length_le (by simp)]; simp; done) | (simp [List.take_append]; done) | (simp; omega))))) (Nat.le_of_ble_eq_true rfl) rfl ?_
          refine RunD.opg rfl rfl rfl (bo (decide_eq_true rfl)) rfl .move rfl ?_
          refine RunD.opg rfl rfl rfl (bo (decide_eq_true rfl)) rfl .move rfl ?_
          refine RunD.callg rfl rfl rfl (bo (decide_eq_true rfl)) rfl rfl rfl (rsb_pc l m (by omega)) (by repeat (first | exact trivial | refine ⟨?_, ?_⟩ | exact .one .v | exact .one .lst | exact .one .rptr | exact .one (.all rfl rfl) | exact .one .nil | exact .agg' (by repeat (first | exact trivial | refine ⟨?_, ?_⟩ | exact .v | exact .lst | exact .rptr | exact .all rfl rfl | exact .nil | exact .clo' trivial)) | exact .one (.clo' (by repeat (first | exact trivial | refine ⟨?_, ?_⟩ | exact .v | exact .lst | exact .rptr | exact .all rfl rfl | exact .nil | exact .clo' trivial))) | exact .one (.ptr' rfl (by repeat (first | exact trivial | refine ⟨?_, ?_⟩ | exact .v | exact .lst | exact .rptr | exact .all rfl rfl | exact .nil | exact .clo' trivial))) | exact .one (.own' rfl (by first | omega | (simp; done) | (simp; omega)) (by first | rw [List.drop_zero, List.take_of_length_le (by omega)] | (rw [List.drop_zero, List.take_of_length_le (by simp)]; simp; done) | (simp [List.take_append]; done) | (simp; omega))))) (Nat.le_of_ble_eq_true rfl) rfl ?_
          refine RunD.opg rfl rfl rfl (bo (decide_eq_true rfl)) rfl (.bin rfl rfl (fun w => b_eqB w Try.underlying4) rfl) rfl ?_
          refine RunD.op0 rfl rfl rfl (.pick (bo (decide_eq_true rfl))) rfl ?_
          refine RunD.op0 rfl rfl rfl .assign rfl ?_
          refine RunD.nil (by kernel_rfl) ⟨rfl, rfl, ?_⟩
          refine T.ret ?_
          exact RetOk.v rfl rfl (by first | rfl | (simp; done))

set_option maxRecDepth 100000 in
theorem treeAsks_lifted (os : Os) (started : os.Started) (H : Type) (enc : TypeId × Value → H) :
    ReturnsInHanded {} Try.checked os 7 .any (Rows.treeAsksSpec.pre6 enc Try.prog Try.f7 Rows.treeAsksRow.domain false) (Rows.treeAsksSpec.post enc Try.prog Try.f7 false true false false) := by
  refine returnsInHanded_of_change (C := Try.checked) Try.own started (by kernel_rfl) Try.func7 (ChangeSpec.witness6 (enc := enc) (C := Try.checked) false ⟨#[], #[.slice none 0 0, .slice none 0 0, .slice none 0 0], []⟩ 8 (by kernel_rfl) (by kernel_rfl) (by kernel_rfl) (by kernel_rfl)) ?_
  intro W base args ds gs before hval0 hW hcnd _
  have hval : ∀ (j : Nat) t v, Try.f7.params[j]? = some t → args[j]? = some v → Value.okWide Try.prog W .any base t v := hval0
  have hW' := hW
  obtain ⟨p, q, hA0, hV, hpq, hfz, hnd⟩ := hW
  have hA : DataW.TrodAll enc Try.prog W 0 (fun _ => true) true Try.f7.params.toList args.toList ds p := hA0
  rw [Try.params7] at hA hval
  obtain ⟨v0, vs0, d0, ds0, p0, q0, hargs, rfl, rfl, h0, r0⟩ := trodAll_cons hA
  obtain ⟨v1, vs1, d1, ds1, p1, q1, rfl, rfl, rfl, h1, r1⟩ := trodAll_cons r0
  obtain ⟨v2, vs2, d2, ds2, p2, q2, rfl, rfl, rfl, h2, r2⟩ := trodAll_cons r1
  obtain ⟨rfl, rfl, rfl⟩ := trodAll_nil r2
  obtain rfl : args = #[v0, v1, v2] := by cases args; simp_all
  obtain ⟨rfl, rfl⟩ := trodVars_none hV
  obtain ⟨a0, k0, x0⟩ := (o34).one Try.underlying34 rfl (fun l => .lst (l.map bS)) (fun _ => rfl) (hval 0 34 v0 rfl rfl) h0
  obtain ⟨a1, k1, x1⟩ := (o34).one Try.underlying34 rfl (fun l => .lst (l.map bS)) (fun _ => rfl) (hval 1 34 v1 rfl rfl) h1
  obtain ⟨a2, k2, x2⟩ := (o35).one Try.underlying35 rfl (fun l => .lst (l.map b8)) (fun _ => rfl) (hval 2 35 v2 rfl rfl) h2
  exact PC.row Try.laidOut (asks_pc a0 a1 a2 (fun n hn => wf8 (k2.2 n hn))) rfl (vrs_arr (vrs_cons x0 (vrs_cons x1 (vrs_cons x2 (vrs_nil))))) hW' rfl rfl (by kernel_rfl) rfl Try.underlying4
theorem TreeAsks_holds : Rows.TreeAsksSaid :=
  OpenClaim.holds_of_wide 7 Try.f7 rfl rfl rfl rfl rfl rfl rfl ⟨rfl, rfl, rfl, rfl, rfl⟩ rfl rfl rfl rfl rfl (by kernel_rfl) Try.func7 (by kernel_rfl)
    (of_decide_eq_true (by kernel_rfl)) (by unfold Func.isWrapper; first | (rw [if_pos (by decide +kernel)]; kernel_rfl) | (rw [if_neg (by decide +kernel)]; exact ⟨rfl, rfl⟩))
    (fun os started H enc _ => treeAsks_lifted os started H enc)
end Go.Proofs.Ytijfhnpmdhonhaa
