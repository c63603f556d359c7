/- PartySum: the law PartySum of the given program returns true at every input, and the input reads as before. No condition. -/
import Derived.Test.YtijfhnpmdhonhaaMG1
import Derived.Test.YtijfhnpmdhonhaaRows
import Derived.ProofKit
set_option linter.unusedVariables false
set_option linter.unusedSimpArgs false
set_option maxRecDepth 100000
namespace Go.Proofs.Ytijfhnpmdhonhaa
open Go Go.Sh Go.ChangeShapes Go.WideShapes Go.ChangeAt Go.RowKit
attribute [local irreducible] Go.Sh.T Go.Sh.RunT Go.Sh.RunD
theorem Try.own : ownKnob Try.prog.godebug = none := by kernel_rfl
theorem Try.laidOut : laidOutB Try.prog = true := by kernel_rfl
theorem psum_pc (a b : List Pty) : PC Try.prog false 6 [.lst (a.map pS), .lst (b.map pS)] (.v (.bool (true))) := by
  have hla : (a.map pS).length = a.length := List.length_map ..
  have hlb : (b.map pS).length = b.length := List.length_map ..
  refine PC.of_T Try.func6 rfl rfl (n := 64) rfl rfl (.inr rfl) ?_
  intro base B w0
  refine T.seq ?_
  refine T.region ?_
  refine RunT.op0 rfl rfl rfl rfl .assign ?_
  refine RunT.nil ?_
  refine T.seq ?_
  refine T.seq ?_
  refine T.region ?_
  refine RunT.op0 rfl rfl rfl rfl .move ?_
  refine RunT.op0 rfl rfl rfl rfl (by first | exact .lenL Try.underlying24 rfl rfl | exact .lenO Try.underlying24 rfl rfl | exact .lenV rfl (fun _ w => len_nil rfl Try.underlying24 w) rfl) ?_
  refine RunT.op0 rfl rfl rfl rfl (.bin rfl rfl (fun w => b_gtr w) rfl) ?_
  refine RunT.op0 rfl rfl rfl rfl .move ?_
  refine RunT.cases (t := 11) rfl (fun g11 => ?_) (fun g11 => ?_)
  · have g11p := g11; (try simp only [decide_eq_true_eq, decide_eq_false_iff_not, Bool.not_eq_true', Bool.not_eq_false', Bool.and_eq_true, Bool.or_eq_true] at g11p)
    refine RunT.no rfl rfl rfl (bo g11) rfl ?_
    refine RunT.no rfl rfl rfl (bo g11) rfl ?_
    refine RunT.no rfl rfl rfl (bo g11) rfl ?_
    refine RunT.op0 rfl rfl rfl rfl (.pick (bo g11)) ?_
    refine RunT.nil ?_
    refine T.condT rfl ?_
    refine T.seq ?_
    refine T.region ?_
    refine RunT.call0 rfl rfl rfl rfl rfl rfl (told_pc) (by repeat (first | exact trivial | refine ⟨?_, ?_⟩ | exact .one .v | exact .one .lst | exact .one .rptr | exact .one (.all rfl rfl) | exact .one .nil | exact .agg' (by repeat (first | exact trivial | refine ⟨?_, ?_⟩ | exact .v | exact .lst | exact .rptr | exact .all rfl rfl | exact .nil | exact .clo' trivial)) | exact .one (.clo' (by repeat (first | exact trivial | refine ⟨?_, ?_⟩ | exact .v | exact .lst | exact .rptr | exact .all rfl rfl | exact .nil | exact .clo' trivial))) | exact .one (.ptr' rfl (by repeat (first | exact trivial | refine ⟨?_, ?_⟩ | exact .v | exact .lst | exact .rptr | exact .all rfl rfl | exact .nil | exact .clo' trivial))) | exact .one (.own' rfl (by first | omega | (simp; done) | (simp; omega)) (by first | rw [List.drop_zero, List.take_of_length_le (by omega)] | (rw [List.drop_zero, List.take_of_length_le (by simp)]; simp; done) | (simp [List.take_append]; done) | (simp; omega))))) (Nat.le_of_ble_eq_true rfl) ?_
    refine RunT.op0 rfl rfl rfl rfl .assign ?_
    refine RunT.nil ?_
    refine T.ret ?_
    exact RetOk.v rfl rfl (by first | rfl | (simp; done) | (cases ha : allP a <;> cases hb : allP b <;> simp_all [sumP]; done))
  · have g11p := g11; (try simp only [decide_eq_true_eq, decide_eq_false_iff_not, Bool.not_eq_true', Bool.not_eq_false', Bool.and_eq_true, Bool.or_eq_true] at g11p)
    refine RunT.opg rfl rfl rfl (bo g11) rfl rfl .move ?_
    refine RunT.opg rfl rfl rfl (bo g11) rfl rfl (by first | exact .lenL Try.underlying24 rfl rfl | exact .lenO Try.underlying24 rfl rfl | exact .lenV rfl (fun _ w => len_nil rfl Try.underlying24 w) rfl) ?_
    refine RunT.opg rfl rfl rfl (bo g11) rfl rfl (.bin rfl rfl (fun w => b_gtr w) rfl) ?_
    refine RunT.op0 rfl rfl rfl rfl (.pick (bo g11)) ?_
    refine RunT.nil ?_
    refine T.cond2 rfl (fun c15 => ?_) (fun c15 => ?_)
    · have c15p := c15; (try simp only [decide_eq_true_eq, decide_eq_false_iff_not, Bool.not_eq_true', Bool.not_eq_false', Bool.and_eq_true, Bool.or_eq_true] at c15p)
      refine T.seq ?_
      refine T.region ?_
      refine RunT.call0 rfl rfl rfl rfl rfl rfl (told_pc) (by repeat (first | exact trivial | refine ⟨?_, ?_⟩ | exact .one .v | exact .one .lst | exact .one .rptr | exact .one (.all rfl rfl) | exact .one .nil | exact .agg' (by repeat (first | exact trivial | refine ⟨?_, ?_⟩ | exact .v | exact .lst | exact .rptr | exact .all rfl rfl | exact .nil | exact .clo' trivial)) | exact .one (.clo' (by repeat (first | exact trivial | refine ⟨?_, ?_⟩ | exact .v | exact .lst | exact .rptr | exact .all rfl rfl | exact .nil | exact .clo' trivial))) | exact .one (.ptr' rfl (by repeat (first | exact trivial | refine ⟨?_, ?_⟩ | exact .v | exact .lst | exact .rptr | exact .all rfl rfl | exact .nil | exact .clo' trivial))) | exact .one (.own' rfl (by first | omega | (simp; done) | (simp; omega)) (by first | rw [List.drop_zero, List.take_of_length_le (by omega)] | (rw [List.drop_zero, List.take_of_length_le (by simp)]; simp; done) | (simp [List.take_append]; done) | (simp; omega))))) (Nat.le_of_ble_eq_true rfl) ?_
      refine RunT.op0 rfl rfl rfl rfl .assign ?_
      refine RunT.nil ?_
      refine T.ret ?_
      exact RetOk.v rfl rfl (by first | rfl | (simp; done) | (cases ha : allP a <;> cases hb : allP b <;> simp_all [sumP]; done))
    · have c15p := c15; (try simp only [decide_eq_true_eq, decide_eq_false_iff_not, Bool.not_eq_true', Bool.not_eq_false', Bool.and_eq_true, Bool.or_eq_true] at c15p)
      refine T.skip ?_
      refine T.seq ?_
      have hab : allP (a ++ b) = (allP a && allP b) := allP_app (by omega) (by omega)
      refine T.region ?_
      refine RunT.op0 rfl rfl rfl rfl (.bslice (d := false) sl24 rfl rfl (by intro y hy; exact (List.not_mem_nil hy).elim) (by decide)) ?_
      refine RunT.op0 rfl rfl rfl rfl .move ?_
      refine RunT.op0 rfl rfl rfl rfl (.appO (d := false) sl24 rfl rfl (by simp) (List.take_of_length_le (by simp)) rfl (.lst Try.underlying24 (mC a)) rfl (by omega)) ?_
      refine RunT.op0 rfl rfl rfl rfl .move ?_
      refine RunT.op0 rfl rfl rfl rfl (.appO (d := false) sl24 rfl rfl (by simp) (List.take_of_length_le (by simp)) rfl (.lst Try.underlying24 (mC b)) rfl (by omega)) ?_
      refine RunT.op0 rfl rfl rfl rfl .assign ?_
      refine RunT.nil ?_
      refine T.seq ?_
      refine T.region ?_
      refine RunT.op0 rfl rfl rfl rfl .move ?_
      refine RunT.call0 rfl rfl rfl rfl rfl rfl (all_pc a) (by repeat (first | exact trivial | refine ⟨?_, ?_⟩ | exact .one .v | exact .one .lst | exact .one .rptr | exact .one (.all rfl rfl) | exact .one .nil | exact .agg' (by repeat (first | exact trivial | refine ⟨?_, ?_⟩ | exact .v | exact .lst | exact .rptr | exact .all rfl rfl | exact .nil | exact .clo' trivial)) | exact .one (.clo' (by repeat (first | exact trivial | refine ⟨?_, ?_⟩ | exact .v | exact .lst | exact .rptr | exact .all rfl rfl | exact .nil | exact .clo' trivial))) | exact .one (.ptr' rfl (by repeat (first | exact trivial | refine ⟨?_, ?_⟩ | exact .v | exact .lst | exact .rptr | exact .all rfl rfl | exact .nil | exact .clo' trivial))) | exact .one (.own' rfl (by first | omega | (simp; done) | (simp; omega)) (by first | rw [List.drop_zero, List.take_of_length_le (by omega)] | (rw [List.drop_zero, List.take_of_length_le (by simp)]; simp; done) | (simp [List.take_append]; done) | (simp; omega))))) (Nat.le_of_ble_eq_true rfl) ?_
      refine RunT.op0 rfl rfl rfl rfl .move ?_
      refine RunT.call0 rfl rfl rfl rfl rfl rfl (all_pc b) (by repeat (first | exact trivial | refine ⟨?_, ?_⟩ | exact .one .v | exact .one .lst | exact .one .rptr | exact .one (.all rfl rfl) | exact .one .nil | exact .agg' (by repeat (first | exact trivial | refine ⟨?_, ?_⟩ | exact .v | exact .lst | exact .rptr | exact .all rfl rfl | exact .nil | exact .clo' trivial)) | exact .one (.clo' (by repeat (first | exact trivial | refine ⟨?_, ?_⟩ | exact .v | exact .lst | exact .rptr | exact .all rfl rfl | exact .nil | exact .clo' trivial))) | exact .one (.ptr' rfl (by repeat (first | exact trivial | refine ⟨?_, ?_⟩ | exact .v | exact .lst | exact .rptr | exact .all rfl rfl | exact .nil | exact .clo' trivial))) | exact .one (.own' rfl (by first | omega | (simp; done) | (simp; omega)) (by first | rw [List.drop_zero, List.take_of_length_le (by omega)] | (rw [List.drop_zero, List.take_of_length_le (by simp)]; simp; done) | (simp [List.take_append]; done) | (simp; omega))))) (Nat.le_of_ble_eq_true rfl) ?_
      refine RunT.op0 rfl rfl rfl rfl .assign ?_
      refine RunT.op0 rfl rfl rfl rfl .assign ?_
      refine RunT.nil ?_
      refine T.seq ?_
      refine T.seq ?_
      refine T.region ?_
      refine RunT.op0 rfl rfl rfl rfl .move ?_
      refine RunT.call0 rfl rfl rfl rfl rfl rfl (all_pc (a ++ b)) (by repeat (first | exact trivial | refine ⟨?_, ?_⟩ | exact .one .v | exact .one .lst | exact .one .rptr | exact .one (.all rfl rfl) | exact .one .nil | exact .agg' (by repeat (first | exact trivial | refine ⟨?_, ?_⟩ | exact .v | exact .lst | exact .rptr | exact .all rfl rfl | exact .nil | exact .clo' trivial)) | exact .one (.clo' (by repeat (first | exact trivial | refine ⟨?_, ?_⟩ | exact .v | exact .lst | exact .rptr | exact .all rfl rfl | exact .nil | exact .clo' trivial))) | exact .one (.ptr' rfl (by repeat (first | exact trivial | refine ⟨?_, ?_⟩ | exact .v | exact .lst | exact .rptr | exact .all rfl rfl | exact .nil | exact .clo' trivial))) | exact .one (.own' rfl (by first | omega | (simp; done) | (simp; omega)) (by first | rw [List.drop_zero, List.take_of_length_le (by omega)] | (rw [List.drop_zero, List.take_of_length_le (by simp)]; simp; done) | (simp [List.take_append]; done) | (simp; omega))))) (Nat.le_of_ble_eq_true rfl) ?_
      refine RunT.op0 rfl rfl rfl rfl .move ?_
      refine RunT.op0 rfl rfl rfl rfl .move ?_
      refine RunT.cases (t := 29) rfl (fun g29 => ?_) (fun g29 => ?_)
      · have g29p := g29; (try simp only [decide_eq_true_eq, decide_eq_false_iff_not, Bool.not_eq_true', Bool.not_eq_false', Bool.and_eq_true, Bool.or_eq_true] at g29p)
        refine RunT.opg rfl rfl rfl (bo g29) rfl rfl .move ?_
        refine RunT.op0 rfl rfl rfl rfl (.pick (bo g29)) ?_
        refine RunT.op0 rfl rfl rfl rfl (.bin rfl rfl (fun w => b_neB w Try.underlying4) rfl) ?_
        refine RunT.nil ?_
        refine T.cond2 rfl (fun c32 => ?_) (fun c32 => ?_)
        · exact absurd c32 (by rw [hab]; simp [g29])
        · have c32p := c32; (try simp only [decide_eq_true_eq, decide_eq_false_iff_not, Bool.not_eq_true', Bool.not_eq_false', Bool.and_eq_true, Bool.or_eq_true] at c32p)
          refine T.skip ?_
          refine T.seq ?_
          refine T.seq ?_
          refine T.region ?_
          refine RunT.op0 rfl rfl rfl rfl .move ?_
          refine RunT.op0 rfl rfl rfl rfl (.un rfl (fun w => u_not w) rfl) ?_
          refine RunT.op0 rfl rfl rfl rfl .move ?_
          refine RunT.cases (t := 35) rfl (fun g35 => ?_) (fun g35 => ?_)
          · have g35p := g35; (try simp only [decide_eq_true_eq, decide_eq_false_iff_not, Bool.not_eq_true', Bool.not_eq_false', Bool.and_eq_true, Bool.or_eq_true] at g35p)
            refine RunT.no rfl rfl rfl (bo g35) rfl ?_
            refine RunT.no rfl rfl rfl (bo g35) rfl ?_
            refine RunT.op0 rfl rfl rfl rfl (.pick (bo g35)) ?_
            refine RunT.nil ?_
            refine T.condT rfl ?_
            refine T.seq ?_
            refine T.region ?_
            refine RunT.call0 rfl rfl rfl rfl rfl rfl (told_pc) (by repeat (first | exact trivial | refine ⟨?_, ?_⟩ | exact .one .v | exact .one .lst | exact .one .rptr | exact .one (.all rfl rfl) | exact .one .nil | exact .agg' (by repeat (first | exact trivial | refine ⟨?_, ?_⟩ | exact .v | exact .lst | exact .rptr | exact .all rfl rfl | exact .nil | exact .clo' trivial)) | exact .one (.clo' (by repeat (first | exact trivial | refine ⟨?_, ?_⟩ | exact .v | exact .lst | exact .rptr | exact .all rfl rfl | exact .nil | exact .clo' trivial))) | exact .one (.ptr' rfl (by repeat (first | exact trivial | refine ⟨?_, ?_⟩ | exact .v | exact .lst | exact .rptr | exact .all rfl rfl | exact .nil | exact .clo' trivial))) | exact .one (.own' rfl (by first | omega | (simp; done) | (simp; omega)) (by first | rw [List.drop_zero, List.take_of_length_le (by omega)] | (rw [List.drop_zero, List.take_of_length_le (by simp)]; simp; done) | (simp [List.take_append]; done) | (simp; omega))))) (Nat.le_of_ble_eq_true rfl) ?_
            refine RunT.op0 rfl rfl rfl rfl .move ?_
            refine RunT.opg rfl rfl rfl rfl rfl rfl .move ?_
            refine RunT.callg rfl rfl rfl rfl rfl rfl rfl rfl (sum_pc (a ++ b)) (by repeat (first | exact trivial | refine ⟨?_, ?_⟩ | exact .one .v | exact .one .lst | exact .one .rptr | exact .one (.all rfl rfl) | exact .one .nil | exact .agg' (by repeat (first | exact trivial | refine ⟨?_, ?_⟩ | exact .v | exact .lst | exact .rptr | exact .all rfl rfl | exact .nil | exact .clo' trivial)) | exact .one (.clo' (by repeat (first | exact trivial | refine ⟨?_, ?_⟩ | exact .v | exact .lst | exact .rptr | exact .all rfl rfl | exact .nil | exact .clo' trivial))) | exact .one (.ptr' rfl (by repeat (first | exact trivial | refine ⟨?_, ?_⟩ | exact .v | exact .lst | exact .rptr | exact .all rfl rfl | exact .nil | exact .clo' trivial))) | exact .one (.own' rfl (by first | omega | (simp; done) | (simp; omega)) (by first | rw [List.drop_zero, List.take_of_length_le (by omega)] | (rw [List.drop_zero, List.take_of_length_le (by simp)]; simp; done) | (simp [List.take_append]; done) | (simp; omega))))) (Nat.le_of_ble_eq_true rfl) ?_
            refine RunT.opg rfl rfl rfl rfl rfl rfl (.bin rfl rfl (fun w => b_eql w) rfl) ?_
            refine RunT.op0 rfl rfl rfl rfl (.pick rfl) ?_
            refine RunT.op0 rfl rfl rfl rfl .assign ?_
            refine RunT.nil ?_
            refine T.ret ?_
            exact RetOk.v rfl rfl (by first | rfl | (simp; done) | (cases ha : allP a <;> cases hb : allP b <;> simp_all [sumP]; done))
          · have g35p := g35; (try simp only [decide_eq_true_eq, decide_eq_false_iff_not, Bool.not_eq_true', Bool.not_eq_false', Bool.and_eq_true, Bool.or_eq_true] at g35p)
            refine RunT.opg rfl rfl rfl (bo g35) rfl rfl .move ?_
            refine RunT.opg rfl rfl rfl (bo g35) rfl rfl (.un rfl (fun w => u_not w) rfl) ?_
            refine RunT.op0 rfl rfl rfl rfl (.pick (bo g35)) ?_
            refine RunT.nil ?_
            refine T.cond2 rfl (fun c38 => ?_) (fun c38 => ?_)
            · have c38p := c38; (try simp only [decide_eq_true_eq, decide_eq_false_iff_not, Bool.not_eq_true', Bool.not_eq_false', Bool.and_eq_true, Bool.or_eq_true] at c38p)
              refine T.seq ?_
              refine T.region ?_
              refine RunT.call0 rfl rfl rfl rfl rfl rfl (told_pc) (by repeat (first | exact trivial | refine ⟨?_, ?_⟩ | exact .one .v | exact .one .lst | exact .one .rptr | exact .one (.all rfl rfl) | exact .one .nil | exact .agg' (by repeat (first | exact trivial | refine ⟨?_, ?_⟩ | exact .v | exact .lst | exact .rptr | exact .all rfl rfl | exact .nil | exact .clo' trivial)) | exact .one (.clo' (by repeat (first | exact trivial | refine ⟨?_, ?_⟩ | exact .v | exact .lst | exact .rptr | exact .all rfl rfl | exact .nil | exact .clo' trivial))) | exact .one (.ptr' rfl (by repeat (first | exact trivial | refine ⟨?_, ?_⟩ | exact .v | exact .lst | exact .rptr | exact .all rfl rfl | exact .nil | exact .clo' trivial))) | exact .one (.own' rfl (by first | omega | (simp; done) | (simp; omega)) (by first | rw [List.drop_zero, List.take_of_length_le (by omega)] | (rw [List.drop_zero, List.take_of_length_le (by simp)]; simp; done) | (simp [List.take_append]; done) | (simp; omega))))) (Nat.le_of_ble_eq_true rfl) ?_
              refine RunT.op0 rfl rfl rfl rfl .move ?_
              refine RunT.opg rfl rfl rfl rfl rfl rfl .move ?_
              refine RunT.callg rfl rfl rfl rfl rfl rfl rfl rfl (sum_pc (a ++ b)) (by repeat (first | exact trivial | refine ⟨?_, ?_⟩ | exact .one .v | exact .one .lst | exact .one .rptr | exact .one (.all rfl rfl) | exact .one .nil | exact .agg' (by repeat (first | exact trivial | refine ⟨?_, ?_⟩ | exact .v | exact .lst | exact .rptr | exact .all rfl rfl | exact .nil | exact .clo' trivial)) | exact .one (.clo' (by repeat (first | exact trivial | refine ⟨?_, ?_⟩ | exact .v | exact .lst | exact .rptr | exact .all rfl rfl | exact .nil | exact .clo' trivial))) | exact .one (.ptr' rfl (by repeat (first | exact trivial | refine ⟨?_, ?_⟩ | exact .v | exact .lst | exact .rptr | exact .all rfl rfl | exact .nil | exact .clo' trivial))) | exact .one (.own' rfl (by first | omega | (simp; done) | (simp; omega)) (by first | rw [List.drop_zero, List.take_of_length_le (by omega)] | (rw [List.drop_zero, List.take_of_length_le (by simp)]; simp; done) | (simp [List.take_append]; done) | (simp; omega))))) (Nat.le_of_ble_eq_true rfl) ?_
              refine RunT.opg rfl rfl rfl rfl rfl rfl (.bin rfl rfl (fun w => b_eql w) rfl) ?_
              refine RunT.op0 rfl rfl rfl rfl (.pick rfl) ?_
              refine RunT.op0 rfl rfl rfl rfl .assign ?_
              refine RunT.nil ?_
              refine T.ret ?_
              exact RetOk.v rfl rfl (by first | rfl | (simp; done) | (cases ha : allP a <;> cases hb : allP b <;> simp_all [sumP]; done))
            · have c38p := c38; (try simp only [decide_eq_true_eq, decide_eq_false_iff_not, Bool.not_eq_true', Bool.not_eq_false', Bool.and_eq_true, Bool.or_eq_true] at c38p)
              refine T.skip ?_
              refine T.seq ?_
              have ha : allP a = true := by revert g35; cases allP a <;> simp
              have hb : allP b = true := by revert c38; cases allP b <;> simp
              have hs := sumP_app (hab.trans (by rw [ha, hb]; rfl)) ha hb
              have bd1 := sumP_bd a
              have bd2 := sumP_bd b
              refine T.region ?_
              refine RunT.call0 rfl rfl rfl rfl rfl rfl (told_pc) (by repeat (first | exact trivial | refine ⟨?_, ?_⟩ | exact .one .v | exact .one .lst | exact .one .rptr | exact .one (.all rfl rfl) | exact .one .nil | exact .agg' (by repeat (first | exact trivial | refine ⟨?_, ?_⟩ | exact .v | exact .lst | exact .rptr | exact .all rfl rfl | exact .nil | exact .clo' trivial)) | exact .one (.clo' (by repeat (first | exact trivial | refine ⟨?_, ?_⟩ | exact .v | exact .lst | exact .rptr | exact .all rfl rfl | exact .nil | exact .clo' trivial))) | exact .one (.ptr' rfl (by repeat (first | exact trivial | refine ⟨?_, ?_⟩ | exact .v | exact .lst | exact .rptr | exact .all rfl rfl | exact .nil | exact .clo' trivial))) | exact .one (.own' rfl (by first | omega | (simp; done) | (simp; omega)) (by first | rw [List.drop_zero, List.take_of_length_le (by omega)] | (rw [List.drop_zero, List.take_of_length_le (by simp)]; simp; done) | (simp [List.take_append]; done) | (simp; omega))))) (Nat.le_of_ble_eq_true rfl) ?_
              refine RunT.op0 rfl rfl rfl rfl .move ?_
              refine RunT.opg rfl rfl rfl rfl rfl rfl .move ?_
              refine RunT.callg rfl rfl rfl rfl rfl rfl rfl rfl (sum_pc (a ++ b)) (by repeat (first | exact trivial | refine ⟨?_, ?_⟩ | exact .one .v | exact .one .lst | exact .one .rptr | exact .one (.all rfl rfl) | exact .one .nil | exact .agg' (by repeat (first | exact trivial | refine ⟨?_, ?_⟩ | exact .v | exact .lst | exact .rptr | exact .all rfl rfl | exact .nil | exact .clo' trivial)) | exact .one (.clo' (by repeat (first | exact trivial | refine ⟨?_, ?_⟩ | exact .v | exact .lst | exact .rptr | exact .all rfl rfl | exact .nil | exact .clo' trivial))) | exact .one (.ptr' rfl (by repeat (first | exact trivial | refine ⟨?_, ?_⟩ | exact .v | exact .lst | exact .rptr | exact .all rfl rfl | exact .nil | exact .clo' trivial))) | exact .one (.own' rfl (by first | omega | (simp; done) | (simp; omega)) (by first | rw [List.drop_zero, List.take_of_length_le (by omega)] | (rw [List.drop_zero, List.take_of_length_le (by simp)]; simp; done) | (simp [List.take_append]; done) | (simp; omega))))) (Nat.le_of_ble_eq_true rfl) ?_
              refine RunT.opg rfl rfl rfl rfl rfl rfl .move ?_
              refine RunT.callg rfl rfl rfl rfl rfl rfl rfl rfl (sum_pc a) (by repeat (first | exact trivial | refine ⟨?_, ?_⟩ | exact .one .v | exact .one .lst | exact .one .rptr | exact .one (.all rfl rfl) | exact .one .nil | exact .agg' (by repeat (first | exact trivial | refine ⟨?_, ?_⟩ | exact .v | exact .lst | exact .rptr | exact .all rfl rfl | exact .nil | exact .clo' trivial)) | exact .one (.clo' (by repeat (first | exact trivial | refine ⟨?_, ?_⟩ | exact .v | exact .lst | exact .rptr | exact .all rfl rfl | exact .nil | exact .clo' trivial))) | exact .one (.ptr' rfl (by repeat (first | exact trivial | refine ⟨?_, ?_⟩ | exact .v | exact .lst | exact .rptr | exact .all rfl rfl | exact .nil | exact .clo' trivial))) | exact .one (.own' rfl (by first | omega | (simp; done) | (simp; omega)) (by first | rw [List.drop_zero, List.take_of_length_le (by omega)] | (rw [List.drop_zero, List.take_of_length_le (by simp)]; simp; done) | (simp [List.take_append]; done) | (simp; omega))))) (Nat.le_of_ble_eq_true rfl) ?_
              refine RunT.opg rfl rfl rfl rfl rfl rfl .move ?_
              refine RunT.callg rfl rfl rfl rfl rfl rfl rfl rfl (sum_pc b) (by repeat (first | exact trivial | refine ⟨?_, ?_⟩ | exact .one .v | exact .one .lst | exact .one .rptr | exact .one (.all rfl rfl) | exact .one .nil | exact .agg' (by repeat (first | exact trivial | refine ⟨?_, ?_⟩ | exact .v | exact .lst | exact .rptr | exact .all rfl rfl | exact .nil | exact .clo' trivial)) | exact .one (.clo' (by repeat (first | exact trivial | refine ⟨?_, ?_⟩ | exact .v | exact .lst | exact .rptr | exact .all rfl rfl | exact .nil | exact .clo' trivial))) | exact .one (.ptr' rfl (by repeat (first | exact trivial | refine ⟨?_, ?_⟩ | exact .v | exact .lst | exact .rptr | exact .all rfl rfl | exact .nil | exact .clo' trivial))) | exact .one (.own' rfl (by first | omega | (simp; done) | (simp; omega)) (by first | rw [List.drop_zero, List.take_of_length_le (by omega)] | (rw [List.drop_zero, List.take_of_length_le (by simp)]; simp; done) | (simp [List.take_append]; done) | (simp; omega))))) (Nat.le_of_ble_eq_true rfl) ?_
              refine RunT.opg rfl rfl rfl rfl rfl rfl (.bin rfl rfl (fun w => b_add' w (w64 (by omega) (by omega))) rfl) ?_
              refine RunT.opg rfl rfl rfl rfl rfl rfl (.bin rfl rfl (fun w => b_eql w) rfl) ?_
              refine RunT.op0 rfl rfl rfl rfl (.pick rfl) ?_
              refine RunT.op0 rfl rfl rfl rfl .move ?_
              refine RunT.cases (t := 56) rfl (fun g56 => ?_) (fun g56 => ?_)
              · have g56p := g56; (try simp only [decide_eq_true_eq, decide_eq_false_iff_not, Bool.not_eq_true', Bool.not_eq_false', Bool.and_eq_true, Bool.or_eq_true] at g56p)
                refine RunT.opg rfl rfl rfl (bo g56) rfl rfl .move ?_
                refine RunT.opg rfl rfl rfl (bo g56) rfl rfl .move ?_
                refine RunT.opg rfl rfl rfl (bo g56) rfl rfl (by first | exact .lenL Try.underlying24 rfl rfl | exact .lenO Try.underlying24 rfl rfl | exact .lenV rfl (fun _ w => len_nil rfl Try.underlying24 w) rfl) ?_
                refine RunT.opg rfl rfl rfl (bo g56) rfl rfl (by first | exact .sliceL sl24 rfl _ (by first | exact rfl | exact ⟨_, _, rfl, rfl⟩ | exact ⟨_, _, rfl, (Int.toNat_of_nonneg (by omega)).symm⟩) (by first | exact rfl | exact ⟨_, _, rfl, rfl⟩ | exact ⟨_, _, rfl, (Int.toNat_of_nonneg (by omega)).symm⟩) (.inl rfl) (by omega) (by omega) | exact .sliceO sl24 rfl rfl (by first | exact rfl | exact ⟨_, _, rfl, rfl⟩ | exact ⟨_, _, rfl, (Int.toNat_of_nonneg (by omega)).symm⟩) (by first | exact rfl | exact ⟨_, _, rfl, rfl⟩ | exact ⟨_, _, rfl, (Int.toNat_of_nonneg (by omega)).symm⟩) (.inl rfl) (by omega) (by first | omega | (simp; done) | (simp; omega))) ?_
                refine RunT.opg rfl rfl rfl (bo g56) rfl rfl .move ?_
                refine RunT.callg rfl rfl rfl (bo g56) rfl rfl rfl rfl (same_pc a a (by omega)) (by repeat (first | exact trivial | refine ⟨?_, ?_⟩ | exact .one .v | exact .one .lst | exact .one .rptr | exact .one (.all rfl rfl) | exact .one .nil | exact .agg' (by repeat (first | exact trivial | refine ⟨?_, ?_⟩ | exact .v | exact .lst | exact .rptr | exact .all rfl rfl | exact .nil | exact .clo' trivial)) | exact .one (.clo' (by repeat (first | exact trivial | refine ⟨?_, ?_⟩ | exact .v | exact .lst | exact .rptr | exact .all rfl rfl | exact .nil | exact .clo' trivial))) | exact .one (.ptr' rfl (by repeat (first | exact trivial | refine ⟨?_, ?_⟩ | exact .v | exact .lst | exact .rptr | exact .all rfl rfl | exact .nil | exact .clo' trivial))) | exact .one (.own' rfl (by first | omega | (simp; done) | (simp; omega)) (by first | rw [List.drop_zero, List.take_of_length_le (by omega)] | (rw [List.drop_zero, List.take_of_length_le (by simp)]; simp; done) | (simp [List.take_append]; done) | (simp; omega))))) (Nat.le_of_ble_eq_true rfl) ?_
                refine RunT.op0 rfl rfl rfl rfl (.pick (bo g56)) ?_
                refine RunT.op0 rfl rfl rfl rfl .assign ?_
                refine RunT.nil ?_
                refine T.ret ?_
                exact RetOk.v rfl rfl (by first | rfl | (simp; done) | (cases ha : allP a <;> cases hb : allP b <;> simp_all [sumP]; done))
              · exact absurd g56 (by rw [hs]; simp)
      · have g29p := g29; (try simp only [decide_eq_true_eq, decide_eq_false_iff_not, Bool.not_eq_true', Bool.not_eq_false', Bool.and_eq_true, Bool.or_eq_true] at g29p)
        refine RunT.no rfl rfl rfl (bo g29) rfl ?_
        refine RunT.op0 rfl rfl rfl rfl (.pick (bo g29)) ?_
        refine RunT.op0 rfl rfl rfl rfl (.bin rfl rfl (fun w => b_neB w Try.underlying4) rfl) ?_
        refine RunT.nil ?_
        refine T.cond2 rfl (fun c32 => ?_) (fun c32 => ?_)
        · exact absurd c32 (by rw [hab]; simp [g29])
        · have c32p := c32; (try simp only [decide_eq_true_eq, decide_eq_false_iff_not, Bool.not_eq_true', Bool.not_eq_false', Bool.and_eq_true, Bool.or_eq_true] at c32p)
          refine T.skip ?_
          refine T.seq ?_
          refine T.seq ?_
          refine T.region ?_
          refine RunT.op0 rfl rfl rfl rfl .move ?_
          refine RunT.op0 rfl rfl rfl rfl (.un rfl (fun w => u_not w) rfl) ?_
          refine RunT.op0 rfl rfl rfl rfl .move ?_
          refine RunT.cases (t := 35) rfl (fun g35 => ?_) (fun g35 => ?_)
          · have g35p := g35; (try simp only [decide_eq_true_eq, decide_eq_false_iff_not, Bool.not_eq_true', Bool.not_eq_false', Bool.and_eq_true, Bool.or_eq_true] at g35p)
            refine RunT.no rfl rfl rfl (bo g35) rfl ?_
            refine RunT.no rfl rfl rfl (bo g35) rfl ?_
            refine RunT.op0 rfl rfl rfl rfl (.pick (bo g35)) ?_
            refine RunT.nil ?_
            refine T.condT rfl ?_
            refine T.seq ?_
            refine T.region ?_
            refine RunT.call0 rfl rfl rfl rfl rfl rfl (told_pc) (by repeat (first | exact trivial | refine ⟨?_, ?_⟩ | exact .one .v | exact .one .lst | exact .one .rptr | exact .one (.all rfl rfl) | exact .one .nil | exact .agg' (by repeat (first | exact trivial | refine ⟨?_, ?_⟩ | exact .v | exact .lst | exact .rptr | exact .all rfl rfl | exact .nil | exact .clo' trivial)) | exact .one (.clo' (by repeat (first | exact trivial | refine ⟨?_, ?_⟩ | exact .v | exact .lst | exact .rptr | exact .all rfl rfl | exact .nil | exact .clo' trivial))) | exact .one (.ptr' rfl (by repeat (first | exact trivial | refine ⟨?_, ?_⟩ | exact .v | exact .lst | exact .rptr | exact .all rfl rfl | exact .nil | exact .clo' trivial))) | exact .one (.own' rfl (by first | omega | (simp; done) | (simp; omega)) (by first | rw [List.drop_zero, List.take_of_length_le (by omega)] | (rw [List.drop_zero, List.take_of_length_le (by simp)]; simp; done) | (simp [List.take_append]; done) | (simp; omega))))) (Nat.le_of_ble_eq_true rfl) ?_
            refine RunT.op0 rfl rfl rfl rfl .move ?_
            refine RunT.opg rfl rfl rfl rfl rfl rfl .move ?_
            refine RunT.callg rfl rfl rfl rfl rfl rfl rfl rfl (sum_pc (a ++ b)) (by repeat (first | exact trivial | refine ⟨?_, ?_⟩ | exact .one .v | exact .one .lst | exact .one .rptr | exact .one (.all rfl rfl) | exact .one .nil | exact .agg' (by repeat (first | exact trivial | refine ⟨?_, ?_⟩ | exact .v | exact .lst | exact .rptr | exact .all rfl rfl | exact .nil | exact .clo' trivial)) | exact .one (.clo' (by repeat (first | exact trivial | refine ⟨?_, ?_⟩ | exact .v | exact .lst | exact .rptr | exact .all rfl rfl | exact .nil | exact .clo' trivial))) | exact .one (.ptr' rfl (by repeat (first | exact trivial | refine ⟨?_, ?_⟩ | exact .v | exact .lst | exact .rptr | exact .all rfl rfl | exact .nil | exact .clo' trivial))) | exact .one (.own' rfl (by first | omega | (simp; done) | (simp; omega)) (by first | rw [List.drop_zero, List.take_of_length_le (by omega)] | (rw [List.drop_zero, List.take_of_length_le (by simp)]; simp; done) | (simp [List.take_append]; done) | (simp; omega))))) (Nat.le_of_ble_eq_true rfl) ?_
            refine RunT.opg rfl rfl rfl rfl rfl rfl (.bin rfl rfl (fun w => b_eql w) rfl) ?_
            refine RunT.op0 rfl rfl rfl rfl (.pick rfl) ?_
            refine RunT.op0 rfl rfl rfl rfl .assign ?_
            refine RunT.nil ?_
            refine T.ret ?_
            exact RetOk.v rfl rfl (by first | rfl | (simp; done) | (cases ha : allP a <;> cases hb : allP b <;> simp_all [sumP]; done))
          · have g35p := g35; (try simp only [decide_eq_true_eq, decide_eq_false_iff_not, Bool.not_eq_true', Bool.not_eq_false', Bool.and_eq_true, Bool.or_eq_true] at g35p)
            refine RunT.opg rfl rfl rfl (bo g35) rfl rfl .move ?_
            refine RunT.opg rfl rfl rfl (bo g35) rfl rfl (.un rfl (fun w => u_not w) rfl) ?_
            refine RunT.op0 rfl rfl rfl rfl (.pick (bo g35)) ?_
            refine RunT.nil ?_
            refine T.cond2 rfl (fun c38 => ?_) (fun c38 => ?_)
            · have c38p := c38; (try simp only [decide_eq_true_eq, decide_eq_false_iff_not, Bool.not_eq_true', Bool.not_eq_false', Bool.and_eq_true, Bool.or_eq_true] at c38p)
              refine T.seq ?_
              refine T.region ?_
              refine RunT.call0 rfl rfl rfl rfl rfl rfl (told_pc) (by repeat (first | exact trivial | refine ⟨?_, ?_⟩ | exact .one .v | exact .one .lst | exact .one .rptr | exact .one (.all rfl rfl) | exact .one .nil | exact .agg' (by repeat (first | exact trivial | refine ⟨?_, ?_⟩ | exact .v | exact .lst | exact .rptr | exact .all rfl rfl | exact .nil | exact .clo' trivial)) | exact .one (.clo' (by repeat (first | exact trivial | refine ⟨?_, ?_⟩ | exact .v | exact .lst | exact .rptr | exact .all rfl rfl | exact .nil | exact .clo' trivial))) | exact .one (.ptr' rfl (by repeat (first | exact trivial | refine ⟨?_, ?_⟩ | exact .v | exact .lst | exact .rptr | exact .all rfl rfl | exact .nil | exact .clo' trivial))) | exact .one (.own' rfl (by first | omega | (simp; done) | (simp; omega)) (by first | rw [List.drop_zero, List.take_of_length_le (by omega)] | (rw [List.drop_zero, List.take_of_length_le (by simp)]; simp; done) | (simp [List.take_append]; done) | (simp; omega))))) (Nat.le_of_ble_eq_true rfl) ?_
              refine RunT.op0 rfl rfl rfl rfl .move ?_
              refine RunT.opg rfl rfl rfl rfl rfl rfl .move ?_
              refine RunT.callg rfl rfl rfl rfl rfl rfl rfl rfl (sum_pc (a ++ b)) (by repeat (first | exact trivial | refine ⟨?_, ?_⟩ | exact .one .v | exact .one .lst | exact .one .rptr | exact .one (.all rfl rfl) | exact .one .nil | exact .agg' (by repeat (first | exact trivial | refine ⟨?_, ?_⟩ | exact .v | exact .lst | exact .rptr | exact .all rfl rfl | exact .nil | exact .clo' trivial)) | exact .one (.clo' (by repeat (first | exact trivial | refine ⟨?_, ?_⟩ | exact .v | exact .lst | exact .rptr | exact .all rfl rfl | exact .nil | exact .clo' trivial))) | exact .one (.ptr' rfl (by repeat (first | exact trivial | refine ⟨?_, ?_⟩ | exact .v | exact .lst | exact .rptr | exact .all rfl rfl | exact .nil | exact .clo' trivial))) | exact .one (.own' rfl (by first | omega | (simp; done) | (simp; omega)) (by first | rw [List.drop_zero, List.take_of_length_le (by omega)] | (rw [List.drop_zero, List.take_of_length_le (by simp)]; simp; done) | (simp [List.take_append]; done) | (simp; omega))))) (Nat.le_of_ble_eq_true rfl) ?_
              refine RunT.opg rfl rfl rfl rfl rfl rfl (.bin rfl rfl (fun w => b_eql w) rfl) ?_
              refine RunT.op0 rfl rfl rfl rfl (.pick rfl) ?_
              refine RunT.op0 rfl rfl rfl rfl .assign ?_
              refine RunT.nil ?_
              refine T.ret ?_
              exact RetOk.v rfl rfl (by first | rfl | (simp; done) | (cases ha : allP a <;> cases hb : allP b <;> simp_all [sumP]; done))
            · have c38p := c38; (try simp only [decide_eq_true_eq, decide_eq_false_iff_not, Bool.not_eq_true', Bool.not_eq_false', Bool.and_eq_true, Bool.or_eq_true] at c38p)
              refine T.skip ?_
              refine T.seq ?_
              have ha : allP a = true := by revert g35; cases allP a <;> simp
              have hb : allP b = true := by revert c38; cases allP b <;> simp
              have hs := sumP_app (hab.trans (by rw [ha, hb]; rfl)) ha hb
              have bd1 := sumP_bd a
              have bd2 := sumP_bd b
              refine T.region ?_
              refine RunT.call0 rfl rfl rfl rfl rfl rfl (told_pc) (by repeat (first | exact trivial | refine ⟨?_, ?_⟩ | exact .one .v | exact .one .lst | exact .one .rptr | exact .one (.all rfl rfl) | exact .one .nil | exact .agg' (by repeat (first | exact trivial | refine ⟨?_, ?_⟩ | exact .v | exact .lst | exact .rptr | exact .all rfl rfl | exact .nil | exact .clo' trivial)) | exact .one (.clo' (by repeat (first | exact trivial | refine ⟨?_, ?_⟩ | exact .v | exact .lst | exact .rptr | exact .all rfl rfl | exact .nil | exact .clo' trivial))) | exact .one (.ptr' rfl (by repeat (first | exact trivial | refine ⟨?_, ?_⟩ | exact .v | exact .lst | exact .rptr | exact .all rfl rfl | exact .nil | exact .clo' trivial))) | exact .one (.own' rfl (by first | omega | (simp; done) | (simp; omega)) (by first | rw [List.drop_zero, List.take_of_length_le (by omega)] | (rw [List.drop_zero, List.take_of_length_le (by simp)]; simp; done) | (simp [List.take_append]; done) | (simp; omega))))) (Nat.le_of_ble_eq_true rfl) ?_
              refine RunT.op0 rfl rfl rfl rfl .move ?_
              refine RunT.opg rfl rfl rfl rfl rfl rfl .move ?_
              refine RunT.callg rfl rfl rfl rfl rfl rfl rfl rfl (sum_pc (a ++ b)) (by repeat (first | exact trivial | refine ⟨?_, ?_⟩ | exact .one .v | exact .one .lst | exact .one .rptr | exact .one (.all rfl rfl) | exact .one .nil | exact .agg' (by repeat (first | exact trivial | refine ⟨?_, ?_⟩ | exact .v | exact .lst | exact .rptr | exact .all rfl rfl | exact .nil | exact .clo' trivial)) | exact .one (.clo' (by repeat (first | exact trivial | refine ⟨?_, ?_⟩ | exact .v | exact .lst | exact .rptr | exact .all rfl rfl | exact .nil | exact .clo' trivial))) | exact .one (.ptr' rfl (by repeat (first | exact trivial | refine ⟨?_, ?_⟩ | exact .v | exact .lst | exact .rptr | exact .all rfl rfl | exact .nil | exact .clo' trivial))) | exact .one (.own' rfl (by first | omega | (simp; done) | (simp; omega)) (by first | rw [List.drop_zero, List.take_of_length_le (by omega)] | (rw [List.drop_zero, List.take_of_length_le (by simp)]; simp; done) | (simp [List.take_append]; done) | (simp; omega))))) (Nat.le_of_ble_eq_true rfl) ?_
              refine RunT.opg rfl rfl rfl rfl rfl rfl .move ?_
              refine RunT.callg rfl rfl rfl rfl rfl rfl rfl rfl (sum_pc a) (by repeat (first | exact trivial | refine ⟨?_, ?_⟩ | exact .one .v | exact .one .lst | exact .one .rptr | exact .one (.all rfl rfl) | exact .one .nil | exact .agg' (by repeat (first | exact trivial | refine ⟨?_, ?_⟩ | exact .v | exact .lst | exact .rptr | exact .all rfl rfl | exact .nil | exact .clo' trivial)) | exact .one (.clo' (by repeat (first | exact trivial | refine ⟨?_, ?_⟩ | exact .v | exact .lst | exact .rptr | exact .all rfl rfl | exact .nil | exact .clo' trivial))) | exact .one (.ptr' rfl (by repeat (first | exact trivial | refine ⟨?_, ?_⟩ | exact .v | exact .lst | exact .rptr | exact .all rfl rfl | exact .nil | exact .clo' trivial))) | exact .one (.own' rfl (by first | omega | (simp; done) | (simp; omega)) (by first | rw [List.drop_zero, List.take_of_length_le (by omega)] | (rw [List.drop_zero, List.take_of_length_le (by simp)]; simp; done) | (simp [List.take_append]; done) | (simp; omega))))) (Nat.le_of_ble_eq_true rfl) ?_
              refine RunT.opg rfl rfl rfl rfl rfl rfl .move ?_
              refine RunT.callg rfl rfl rfl rfl rfl rfl rfl rfl (sum_pc b) (by repeat (first | exact trivial | refine ⟨?_, ?_⟩ | exact .one .v | exact .one .lst | exact .one .rptr | exact .one (.all rfl rfl) | exact .one .nil | exact .agg' (by repeat (first | exact trivial | refine ⟨?_, ?_⟩ | exact .v | exact .lst | exact .rptr | exact .all rfl rfl | exact .nil | exact .clo' trivial)) | exact .one (.clo' (by repeat (first | exact trivial | refine ⟨?_, ?_⟩ | exact .v | exact .lst | exact .rptr | exact .all rfl rfl | exact .nil | exact .clo' trivial))) | exact .one (.ptr' rfl (by repeat (first | exact trivial | refine ⟨?_, ?_⟩ | exact .v | exact .lst | exact .rptr | exact .all rfl rfl | exact .nil | exact .clo' trivial))) | exact .one (.own' rfl (by first | omega | (simp; done) | (simp; omega)) (by first | rw [List.drop_zero, List.take_of_length_le (by omega)] | (rw [List.drop_zero, List.take_of_length_le (by simp)]; simp; done) | (simp [List.take_append]; done) | (simp; omega))))) (Nat.le_of_ble_eq_true rfl) ?_
              refine RunT.opg rfl rfl rfl rfl rfl rfl (.bin rfl rfl (fun w => b_add' w (w64 (by omega) (by omega))) rfl) ?_
              refine RunT.opg rfl rfl rfl rfl rfl rfl (.bin rfl rfl (fun w => b_eql w) rfl) ?_
              refine RunT.op0 rfl rfl rfl rfl (.pick rfl) ?_
              refine RunT.op0 rfl rfl rfl rfl .move ?_
              refine RunT.cases (t := 56) rfl (fun g56 => ?_) (fun g56 => ?_)
              · have g56p := g56; (try simp only [decide_eq_true_eq, decide_eq_false_iff_not, Bool.not_eq_true', Bool.not_eq_false', Bool.and_eq_true, Bool.or_eq_true] at g56p)
                refine RunT.opg rfl rfl rfl (bo g56) rfl rfl .move ?_
                refine RunT.opg rfl rfl rfl (bo g56) rfl rfl .move ?_
                refine RunT.opg rfl rfl rfl (bo g56) rfl rfl (by first | exact .lenL Try.underlying24 rfl rfl | exact .lenO Try.underlying24 rfl rfl | exact .lenV rfl (fun _ w => len_nil rfl Try.underlying24 w) rfl) ?_
                refine RunT.opg rfl rfl rfl (bo g56) rfl rfl (by first | exact .sliceL sl24 rfl _ (by first | exact rfl | exact ⟨_, _, rfl, rfl⟩ | exact ⟨_, _, rfl, (Int.toNat_of_nonneg (by omega)).symm⟩) (by first | exact rfl | exact ⟨_, _, rfl, rfl⟩ | exact ⟨_, _, rfl, (Int.toNat_of_nonneg (by omega)).symm⟩) (.inl rfl) (by omega) (by omega) | exact .sliceO sl24 rfl rfl (by first | exact rfl | exact ⟨_, _, rfl, rfl⟩ | exact ⟨_, _, rfl, (Int.toNat_of_nonneg (by omega)).symm⟩) (by first | exact rfl | exact ⟨_, _, rfl, rfl⟩ | exact ⟨_, _, rfl, (Int.toNat_of_nonneg (by omega)).symm⟩) (.inl rfl) (by omega) (by first | omega | (simp; done) | (simp; omega))) ?_
                refine RunT.opg rfl rfl rfl (bo g56) rfl rfl .move ?_
                refine RunT.callg rfl rfl rfl (bo g56) rfl rfl rfl rfl (same_pc a a (by omega)) (by repeat (first | exact trivial | refine ⟨?_, ?_⟩ | exact .one .v | exact .one .lst | exact .one .rptr | exact .one (.all rfl rfl) | exact .one .nil | exact .agg' (by repeat (first | exact trivial | refine ⟨?_, ?_⟩ | exact .v | exact .lst | exact .rptr | exact .all rfl rfl | exact .nil | exact .clo' trivial)) | exact .one (.clo' (by repeat (first | exact trivial | refine ⟨?_, ?_⟩ | exact .v | exact .lst | exact .rptr | exact .all rfl rfl | exact .nil | exact .clo' trivial))) | exact .one (.ptr' rfl (by repeat (first | exact trivial | refine ⟨?_, ?_⟩ | exact .v | exact .lst | exact .rptr | exact .all rfl rfl | exact .nil | exact .clo' trivial))) | exact .one (.own' rfl (by first | omega | (simp; done) | (simp; omega)) (by first | rw [List.drop_zero, List.take_of_length_le (by omega)] | (rw [List.drop_zero, List.take_of_length_le (by simp)]; simp; done) | (simp [List.take_append]; done) | (simp; omega))))) (Nat.le_of_ble_eq_true rfl) ?_
                refine RunT.op0 rfl rfl rfl rfl (.pick (bo g56)) ?_
                refine RunT.op0 rfl rfl rfl rfl .assign ?_
                refine RunT.nil ?_
                refine T.ret ?_
                exact RetOk.v rfl rfl (by first | rfl | (simp; done) | (cases ha : allP a <;> cases hb : allP b <;> simp_all [sumP]; done))
              · exact absurd g56 (by rw [hs]; simp)

set_option maxRecDepth 100000 in
theorem partySum_lifted (os : Os) (started : os.Started) (H : Type) (enc : TypeId × Value → H) :
    ReturnsInHanded {} Try.checked os 6 .any (Rows.partySumSpec.pre6 enc Try.prog Try.f6 Rows.partySumRow.domain false) (Rows.partySumSpec.post enc Try.prog Try.f6 false true false false) := by
  refine returnsInHanded_of_change (C := Try.checked) Try.own started (by kernel_rfl) Try.func6 (ChangeSpec.witness6 (enc := enc) (C := Try.checked) false ⟨#[], #[.slice none 0 0, .slice none 0 0], []⟩ 8 (by kernel_rfl) (by kernel_rfl) (by kernel_rfl) (by kernel_rfl)) ?_
  intro W base args ds gs before hval0 hW hcnd _
  have hval : ∀ (j : Nat) t v, Try.f6.params[j]? = some t → args[j]? = some v → Value.okWide Try.prog W .any base t v := hval0
  have hW' := hW
  obtain ⟨p, q, hA0, hV, hpq, hfz, hnd⟩ := hW
  have hA : DataW.TrodAll enc Try.prog W 0 (fun _ => true) true Try.f6.params.toList args.toList ds p := hA0
  rw [Try.params6] at hA hval
  obtain ⟨v0, vs0, d0, ds0, p0, q0, hargs, rfl, rfl, h0, r0⟩ := trodAll_cons hA
  obtain ⟨v1, vs1, d1, ds1, p1, q1, rfl, rfl, rfl, h1, r1⟩ := trodAll_cons r0
  obtain ⟨rfl, rfl, rfl⟩ := trodAll_nil r1
  obtain rfl : args = #[v0, v1] := by cases args; simp_all
  obtain ⟨rfl, rfl⟩ := trodVars_none hV
  obtain ⟨a0, k0, x0⟩ := (o24).one Try.underlying24 rfl (fun l => .lst (l.map pS)) (fun _ => rfl) (hval 0 24 v0 rfl rfl) h0
  obtain ⟨a1, k1, x1⟩ := (o24).one Try.underlying24 rfl (fun l => .lst (l.map pS)) (fun _ => rfl) (hval 1 24 v1 rfl rfl) h1
  exact PC.row Try.laidOut (psum_pc a0 a1) rfl (vrs_arr (vrs_cons x0 (vrs_cons x1 (vrs_nil)))) hW' rfl rfl (by kernel_rfl) rfl Try.underlying4
theorem PartySum_holds : Rows.PartySumSaid :=
  OpenClaim.holds_of_wide 6 Try.f6 rfl rfl rfl rfl rfl rfl rfl ⟨rfl, rfl, rfl, rfl, rfl⟩ rfl rfl rfl rfl rfl (by kernel_rfl) Try.func6 (by kernel_rfl)
    (of_decide_eq_true (by kernel_rfl)) (by unfold Func.isWrapper; first | (rw [if_pos (by decide +kernel)]; kernel_rfl) | (rw [if_neg (by decide +kernel)]; exact ⟨rfl, rfl⟩))
    (fun os started H enc _ => partySum_lifted os started H enc)
end Go.Proofs.Ytijfhnpmdhonhaa
