/- PartyAll: the law PartyAll of the given program returns true at every input, and the input reads as before. No condition. -/
import Derived.Test.YtijfhnpmdhonhaaMG1
import Derived.Test.YtijfhnpmdhonhaaRows
import Derived.ProofKit
set_option linter.unusedVariables false
set_option linter.unusedSimpArgs false
set_option maxRecDepth 100000
namespace Go.Proofs.Ytijfhnpmdhonhaa
open Go Go.Sh Go.ChangeShapes Go.WideShapes Go.ChangeAt Go.RowKit
attribute [local irreducible] Go.Sh.T Go.Sh.RunT Go.Sh.RunD
theorem Try.own : ownKnob Try.prog.godebug = none := by kernel_rfl
theorem Try.laidOut : laidOutB Try.prog = true := by kernel_rfl
theorem pall_pc (x y : Int) : PC Try.prog false 4 [.v (.int .i64 x), .v (.int .i64 y)] (.v (.bool (true))) := by
  obtain ⟨s, hs, s1, s2⟩ := um x 12 (by omega) (by omega)
  obtain ⟨u, hu, u1, u2⟩ := um y 6 (by omega) (by omega)
  refine PC.of_T Try.func4 rfl rfl (n := 57) rfl rfl (.inr rfl) ?_
  intro base B w0
  refine T.seq ?_
  refine T.region ?_
  refine RunT.op0 rfl rfl rfl rfl .assign ?_
  refine RunT.nil ?_
  refine T.seq ?_
  refine T.region ?_
  refine RunT.op0 rfl rfl rfl rfl .move ?_
  refine RunT.op0 rfl rfl rfl rfl (.conv rfl (fun w => c_int w ⟨_, Try.underlying3⟩ Try.underlying31) rfl) ?_
  refine RunT.op0 rfl rfl rfl rfl (.bin rfl rfl (fun w => b_rem w (by decide)) rfl) ?_
  refine RunT.op0 rfl rfl rfl rfl (.conv rfl (fun w => c_int' ⟨_, Try.underlying31⟩ Try.underlying3 hs w) rfl) ?_
  refine RunT.op0 rfl rfl rfl rfl (.bin rfl rfl (fun w => b_sub' w (w64 (by omega) (by omega))) rfl) ?_
  refine RunT.op0 rfl rfl rfl rfl .move ?_
  refine RunT.op0 rfl rfl rfl rfl (.conv rfl (fun w => c_int w ⟨_, Try.underlying3⟩ Try.underlying31) rfl) ?_
  refine RunT.op0 rfl rfl rfl rfl (.bin rfl rfl (fun w => b_rem w (by decide)) rfl) ?_
  refine RunT.op0 rfl rfl rfl rfl (.conv rfl (fun w => c_int' ⟨_, Try.underlying31⟩ Try.underlying3 hu w) rfl) ?_
  refine RunT.op0 rfl rfl rfl rfl (.bin rfl rfl (fun w => b_sub' w (w64 (by omega) (by omega))) rfl) ?_
  refine RunT.op0 rfl rfl rfl rfl .assign ?_
  refine RunT.op0 rfl rfl rfl rfl .assign ?_
  refine RunT.nil ?_
  refine T.seq ?_
  refine T.region ?_
  refine RunT.op0 rfl rfl rfl rfl .move ?_
  refine RunT.op0 rfl rfl rfl rfl (.bin rfl rfl (fun w => b_geq w) rfl) ?_
  refine RunT.op0 rfl rfl rfl rfl .move ?_
  refine RunT.cases (t := 20) rfl (fun g20 => ?_) (fun g20 => ?_)
  · have g20p := g20; (try simp only [decide_eq_true_eq, decide_eq_false_iff_not, Bool.not_eq_true', Bool.not_eq_false', Bool.and_eq_true, Bool.or_eq_true] at g20p)
    refine RunT.opg rfl rfl rfl (bo g20) rfl rfl .move ?_
    refine RunT.opg rfl rfl rfl (bo g20) rfl rfl (.bin rfl rfl (fun w => b_leq w) rfl) ?_
    refine RunT.op0 rfl rfl rfl rfl (.pick (bo g20)) ?_
    refine RunT.op0 rfl rfl rfl rfl .move ?_
    refine RunT.cases (t := 24) rfl (fun g24 => ?_) (fun g24 => ?_)
    · have g24p := g24; (try simp only [decide_eq_true_eq, decide_eq_false_iff_not, Bool.not_eq_true', Bool.not_eq_false', Bool.and_eq_true, Bool.or_eq_true] at g24p)
      refine RunT.opg rfl rfl rfl (bo g24) rfl rfl .move ?_
      refine RunT.opg rfl rfl rfl (bo g24) rfl rfl (.bin rfl rfl (fun w => b_geq w) rfl) ?_
      refine RunT.op0 rfl rfl rfl rfl (.pick (bo g24)) ?_
      refine RunT.op0 rfl rfl rfl rfl .move ?_
      refine RunT.cases (t := 28) rfl (fun g28 => ?_) (fun g28 => ?_)
      · have g28p := g28; (try simp only [decide_eq_true_eq, decide_eq_false_iff_not, Bool.not_eq_true', Bool.not_eq_false', Bool.and_eq_true, Bool.or_eq_true] at g28p)
        refine RunT.opg rfl rfl rfl (bo g28) rfl rfl .move ?_
        refine RunT.opg rfl rfl rfl (bo g28) rfl rfl (.bin rfl rfl (fun w => b_leq w) rfl) ?_
        refine RunT.op0 rfl rfl rfl rfl (.pick (bo g28)) ?_
        refine RunT.op0 rfl rfl rfl rfl .move ?_
        refine RunT.cases (t := 32) rfl (fun g32 => ?_) (fun g32 => ?_)
        · have g32p := g32; (try simp only [decide_eq_true_eq, decide_eq_false_iff_not, Bool.not_eq_true', Bool.not_eq_false', Bool.and_eq_true, Bool.or_eq_true] at g32p)
          refine RunT.opg rfl rfl rfl (bo g32) rfl rfl .move ?_
          refine RunT.opg rfl rfl rfl (bo g32) rfl rfl (.bin rfl rfl (fun w => b_mul' w (w64 (by omega) (by omega))) rfl) ?_
          refine RunT.opg rfl rfl rfl (bo g32) rfl rfl .move ?_
          refine RunT.opg rfl rfl rfl (bo g32) rfl rfl (.bin rfl rfl (fun w => b_leq w) rfl) ?_
          refine RunT.op0 rfl rfl rfl rfl (.pick (bo g32)) ?_
          refine RunT.op0 rfl rfl rfl rfl .assign ?_
          refine RunT.nil ?_
          refine T.seq ?_
          refine T.region ?_
          refine RunT.call0 rfl rfl rfl rfl rfl rfl (told_pc) (by repeat (first | exact trivial | refine ⟨?_, ?_⟩ | exact .one .v | exact .one .lst | exact .one .rptr | exact .one (.all rfl rfl) | exact .one .nil | exact .agg' (by repeat (first | exact trivial | refine ⟨?_, ?_⟩ | exact .v | exact .lst | exact .rptr | exact .all rfl rfl | exact .nil | exact .clo' trivial)) | exact .one (.clo' (by repeat (first | exact trivial | refine ⟨?_, ?_⟩ | exact .v | exact .lst | exact .rptr | exact .all rfl rfl | exact .nil | exact .clo' trivial))) | exact .one (.ptr' rfl (by repeat (first | exact trivial | refine ⟨?_, ?_⟩ | exact .v | exact .lst | exact .rptr | exact .all rfl rfl | exact .nil | exact .clo' trivial))) | exact .one (.own' rfl (by first | omega | (simp; done) | (simp; omega)) (by first | rw [List.drop_zero, List.take_of_length_le (by omega)] | (simp; done) | (simp; omega))))) (Nat.le_of_ble_eq_true rfl) ?_
          refine RunT.op0 rfl rfl rfl rfl .move ?_
          refine RunT.opg rfl rfl rfl rfl rfl rfl .move ?_
          refine RunT.opg rfl rfl rfl rfl rfl rfl .move ?_
          refine RunT.opg rfl rfl rfl rfl rfl rfl (.bu bu23 rfl) ?_
          refine RunT.callg rfl rfl rfl rfl rfl rfl rfl rfl (may_pc ⟨s - 1, u - 1⟩) (by repeat (first | exact trivial | refine ⟨?_, ?_⟩ | exact .one .v | exact .one .lst | exact .one .rptr | exact .one (.all rfl rfl) | exact .one .nil | exact .agg' (by repeat (first | exact trivial | refine ⟨?_, ?_⟩ | exact .v | exact .lst | exact .rptr | exact .all rfl rfl | exact .nil | exact .clo' trivial)) | exact .one (.clo' (by repeat (first | exact trivial | refine ⟨?_, ?_⟩ | exact .v | exact .lst | exact .rptr | exact .all rfl rfl | exact .nil | exact .clo' trivial))) | exact .one (.ptr' rfl (by repeat (first | exact trivial | refine ⟨?_, ?_⟩ | exact .v | exact .lst | exact .rptr | exact .all rfl rfl | exact .nil | exact .clo' trivial))) | exact .one (.own' rfl (by first | omega | (simp; done) | (simp; omega)) (by first | rw [List.drop_zero, List.take_of_length_le (by omega)] | (simp; done) | (simp; omega))))) (Nat.le_of_ble_eq_true rfl) ?_
          refine RunT.opg rfl rfl rfl rfl rfl rfl .move ?_
          refine RunT.opg rfl rfl rfl rfl rfl rfl (.bin rfl rfl (fun w => b_eqB w Try.underlying4) rfl) ?_
          refine RunT.op0 rfl rfl rfl rfl (.pick rfl) ?_
          refine RunT.op0 rfl rfl rfl rfl .move ?_
          refine RunT.cases (t := 47) rfl (fun g47 => ?_) (fun g47 => ?_)
          · have g47p := g47; (try simp only [decide_eq_true_eq, decide_eq_false_iff_not, Bool.not_eq_true', Bool.not_eq_false', Bool.and_eq_true, Bool.or_eq_true] at g47p)
            refine RunT.opg rfl rfl rfl (bo g47) rfl rfl (.bu bu23 rfl) ?_
            refine RunT.opg rfl rfl rfl (bo g47) rfl rfl .move ?_
            refine RunT.opg rfl rfl rfl (bo g47) rfl rfl .move ?_
            refine RunT.opg rfl rfl rfl (bo g47) rfl rfl (.bu bu23 rfl) ?_
            refine RunT.opg rfl rfl rfl (bo g47) rfl rfl (.bslice (d := false) sl24 rfl rfl (by intro y hy; rcases List.mem_cons.1 hy with rfl | hy; exact ⟨rfl, rfl, fun _ => rfl⟩; rcases List.mem_cons.1 hy with rfl | hy; exact ⟨rfl, rfl, fun _ => rfl⟩; exact (List.not_mem_nil hy).elim) (by decide)) ?_
            refine RunT.callg rfl rfl rfl (bo g47) rfl rfl rfl rfl (all_pc [⟨1, 0⟩, ⟨s - 1, u - 1⟩]) (by repeat (first | exact trivial | refine ⟨?_, ?_⟩ | exact .one .v | exact .one .lst | exact .one .rptr | exact .one (.all rfl rfl) | exact .one .nil | exact .agg' (by repeat (first | exact trivial | refine ⟨?_, ?_⟩ | exact .v | exact .lst | exact .rptr | exact .all rfl rfl | exact .nil | exact .clo' trivial)) | exact .one (.clo' (by repeat (first | exact trivial | refine ⟨?_, ?_⟩ | exact .v | exact .lst | exact .rptr | exact .all rfl rfl | exact .nil | exact .clo' trivial))) | exact .one (.ptr' rfl (by repeat (first | exact trivial | refine ⟨?_, ?_⟩ | exact .v | exact .lst | exact .rptr | exact .all rfl rfl | exact .nil | exact .clo' trivial))) | exact .one (.own' rfl (by first | omega | (simp; done) | (simp; omega)) (by first | rw [List.drop_zero, List.take_of_length_le (by omega)] | (simp; done) | (simp; omega))))) (Nat.le_of_ble_eq_true rfl) ?_
            refine RunT.opg rfl rfl rfl (bo g47) rfl rfl .move ?_
            refine RunT.opg rfl rfl rfl (bo g47) rfl rfl (.bin rfl rfl (fun w => b_eqB w Try.underlying4) rfl) ?_
            refine RunT.op0 rfl rfl rfl rfl (.pick (bo g47)) ?_
            refine RunT.op0 rfl rfl rfl rfl .assign ?_
            refine RunT.nil ?_
            refine T.ret ?_
            exact RetOk.v rfl rfl (by rw [pairB, g47])
          · exact absurd g47 (by simp only [Pty.may, beq_eq_false_iff_ne, ne_eq, Decidable.not_not]; first | (rw [decide_eq_decide]; omega) | (rw [decide_eq_false_iff_not]; omega) | (rw [decide_eq_true_iff]; omega))
        · have g32p := g32; (try simp only [decide_eq_true_eq, decide_eq_false_iff_not, Bool.not_eq_true', Bool.not_eq_false', Bool.and_eq_true, Bool.or_eq_true] at g32p)
          refine RunT.no rfl rfl rfl (bo g32) rfl ?_
          refine RunT.no rfl rfl rfl (bo g32) rfl ?_
          refine RunT.no rfl rfl rfl (bo g32) rfl ?_
          refine RunT.no rfl rfl rfl (bo g32) rfl ?_
          refine RunT.op0 rfl rfl rfl rfl (.pick (bo g32)) ?_
          refine RunT.op0 rfl rfl rfl rfl .assign ?_
          refine RunT.nil ?_
          refine T.seq ?_
          refine T.region ?_
          refine RunT.call0 rfl rfl rfl rfl rfl rfl (told_pc) (by repeat (first | exact trivial | refine ⟨?_, ?_⟩ | exact .one .v | exact .one .lst | exact .one .rptr | exact .one (.all rfl rfl) | exact .one .nil | exact .agg' (by repeat (first | exact trivial | refine ⟨?_, ?_⟩ | exact .v | exact .lst | exact .rptr | exact .all rfl rfl | exact .nil | exact .clo' trivial)) | exact .one (.clo' (by repeat (first | exact trivial | refine ⟨?_, ?_⟩ | exact .v | exact .lst | exact .rptr | exact .all rfl rfl | exact .nil | exact .clo' trivial))) | exact .one (.ptr' rfl (by repeat (first | exact trivial | refine ⟨?_, ?_⟩ | exact .v | exact .lst | exact .rptr | exact .all rfl rfl | exact .nil | exact .clo' trivial))) | exact .one (.own' rfl (by first | omega | (simp; done) | (simp; omega)) (by first | rw [List.drop_zero, List.take_of_length_le (by omega)] | (simp; done) | (simp; omega))))) (Nat.le_of_ble_eq_true rfl) ?_
          refine RunT.op0 rfl rfl rfl rfl .move ?_
          refine RunT.opg rfl rfl rfl rfl rfl rfl .move ?_
          refine RunT.opg rfl rfl rfl rfl rfl rfl .move ?_
          refine RunT.opg rfl rfl rfl rfl rfl rfl (.bu bu23 rfl) ?_
          refine RunT.callg rfl rfl rfl rfl rfl rfl rfl rfl (may_pc ⟨s - 1, u - 1⟩) (by repeat (first | exact trivial | refine ⟨?_, ?_⟩ | exact .one .v | exact .one .lst | exact .one .rptr | exact .one (.all rfl rfl) | exact .one .nil | exact .agg' (by repeat (first | exact trivial | refine ⟨?_, ?_⟩ | exact .v | exact .lst | exact .rptr | exact .all rfl rfl | exact .nil | exact .clo' trivial)) | exact .one (.clo' (by repeat (first | exact trivial | refine ⟨?_, ?_⟩ | exact .v | exact .lst | exact .rptr | exact .all rfl rfl | exact .nil | exact .clo' trivial))) | exact .one (.ptr' rfl (by repeat (first | exact trivial | refine ⟨?_, ?_⟩ | exact .v | exact .lst | exact .rptr | exact .all rfl rfl | exact .nil | exact .clo' trivial))) | exact .one (.own' rfl (by first | omega | (simp; done) | (simp; omega)) (by first | rw [List.drop_zero, List.take_of_length_le (by omega)] | (simp; done) | (simp; omega))))) (Nat.le_of_ble_eq_true rfl) ?_
          refine RunT.opg rfl rfl rfl rfl rfl rfl .move ?_
          refine RunT.opg rfl rfl rfl rfl rfl rfl (.bin rfl rfl (fun w => b_eqB w Try.underlying4) rfl) ?_
          refine RunT.op0 rfl rfl rfl rfl (.pick rfl) ?_
          refine RunT.op0 rfl rfl rfl rfl .move ?_
          refine RunT.cases (t := 47) rfl (fun g47 => ?_) (fun g47 => ?_)
          · have g47p := g47; (try simp only [decide_eq_true_eq, decide_eq_false_iff_not, Bool.not_eq_true', Bool.not_eq_false', Bool.and_eq_true, Bool.or_eq_true] at g47p)
            refine RunT.opg rfl rfl rfl (bo g47) rfl rfl (.bu bu23 rfl) ?_
            refine RunT.opg rfl rfl rfl (bo g47) rfl rfl .move ?_
            refine RunT.opg rfl rfl rfl (bo g47) rfl rfl .move ?_
            refine RunT.opg rfl rfl rfl (bo g47) rfl rfl (.bu bu23 rfl) ?_
            refine RunT.opg rfl rfl rfl (bo g47) rfl rfl (.bslice (d := false) sl24 rfl rfl (by intro y hy; rcases List.mem_cons.1 hy with rfl | hy; exact ⟨rfl, rfl, fun _ => rfl⟩; rcases List.mem_cons.1 hy with rfl | hy; exact ⟨rfl, rfl, fun _ => rfl⟩; exact (List.not_mem_nil hy).elim) (by decide)) ?_
            refine RunT.callg rfl rfl rfl (bo g47) rfl rfl rfl rfl (all_pc [⟨1, 0⟩, ⟨s - 1, u - 1⟩]) (by repeat (first | exact trivial | refine ⟨?_, ?_⟩ | exact .one .v | exact .one .lst | exact .one .rptr | exact .one (.all rfl rfl) | exact .one .nil | exact .agg' (by repeat (first | exact trivial | refine ⟨?_, ?_⟩ | exact .v | exact .lst | exact .rptr | exact .all rfl rfl | exact .nil | exact .clo' trivial)) | exact .one (.clo' (by repeat (first | exact trivial | refine ⟨?_, ?_⟩ | exact .v | exact .lst | exact .rptr | exact .all rfl rfl | exact .nil | exact .clo' trivial))) | exact .one (.ptr' rfl (by repeat (first | exact trivial | refine ⟨?_, ?_⟩ | exact .v | exact .lst | exact .rptr | exact .all rfl rfl | exact .nil | exact .clo' trivial))) | exact .one (.own' rfl (by first | omega | (simp; done) | (simp; omega)) (by first | rw [List.drop_zero, List.take_of_length_le (by omega)] | (simp; done) | (simp; omega))))) (Nat.le_of_ble_eq_true rfl) ?_
            refine RunT.opg rfl rfl rfl (bo g47) rfl rfl .move ?_
            refine RunT.opg rfl rfl rfl (bo g47) rfl rfl (.bin rfl rfl (fun w => b_eqB w Try.underlying4) rfl) ?_
            refine RunT.op0 rfl rfl rfl rfl (.pick (bo g47)) ?_
            refine RunT.op0 rfl rfl rfl rfl .assign ?_
            refine RunT.nil ?_
            refine T.ret ?_
            exact RetOk.v rfl rfl (by rw [pairB, g47])
          · exact absurd g47 (by simp only [Pty.may, beq_eq_false_iff_ne, ne_eq, Decidable.not_not]; first | (rw [decide_eq_decide]; omega) | (rw [decide_eq_false_iff_not]; omega) | (rw [decide_eq_true_iff]; omega))
      · have g28p := g28; (try simp only [decide_eq_true_eq, decide_eq_false_iff_not, Bool.not_eq_true', Bool.not_eq_false', Bool.and_eq_true, Bool.or_eq_true] at g28p)
        refine RunT.no rfl rfl rfl (bo g28) rfl ?_
        refine RunT.no rfl rfl rfl (bo g28) rfl ?_
        refine RunT.op0 rfl rfl rfl rfl (.pick (bo g28)) ?_
        refine RunT.op0 rfl rfl rfl rfl .move ?_
        refine RunT.no rfl rfl rfl rfl rfl ?_
        refine RunT.no rfl rfl rfl rfl rfl ?_
        refine RunT.no rfl rfl rfl rfl rfl ?_
        refine RunT.no rfl rfl rfl rfl rfl ?_
        refine RunT.op0 rfl rfl rfl rfl (.pick rfl) ?_
        refine RunT.op0 rfl rfl rfl rfl .assign ?_
        refine RunT.nil ?_
        refine T.seq ?_
        refine T.region ?_
        refine RunT.call0 rfl rfl rfl rfl rfl rfl (told_pc) (by repeat (first | exact trivial | refine ⟨?_, ?_⟩ | exact .one .v | exact .one .lst | exact .one .rptr | exact .one (.all rfl rfl) | exact .one .nil | exact .agg' (by repeat (first | exact trivial | refine ⟨?_, ?_⟩ | exact .v | exact .lst | exact .rptr | exact .all rfl rfl | exact .nil | exact .clo' trivial)) | exact .one (.clo' (by repeat (first | exact trivial | refine ⟨?_, ?_⟩ | exact .v | exact .lst | exact .rptr | exact .all rfl rfl | exact .nil | exact .clo' trivial))) | exact .one (.ptr' rfl (by repeat (first | exact trivial | refine ⟨?_, ?_⟩ | exact .v | exact .lst | exact .rptr | exact .all rfl rfl | exact .nil | exact .clo' trivial))) | exact .one (.own' rfl (by first | omega | (simp; done) | (simp; omega)) (by first | rw [List.drop_zero, List.take_of_length_le (by omega)] | (simp; done) | (simp; omega))))) (Nat.le_of_ble_eq_true rfl) ?_
        refine RunT.op0 rfl rfl rfl rfl .move ?_
        refine RunT.opg rfl rfl rfl rfl rfl rfl .move ?_
        refine RunT.opg rfl rfl rfl rfl rfl rfl .move ?_
        refine RunT.opg rfl rfl rfl rfl rfl rfl (.bu bu23 rfl) ?_
        refine RunT.callg rfl rfl rfl rfl rfl rfl rfl rfl (may_pc ⟨s - 1, u - 1⟩) (by repeat (first | exact trivial | refine ⟨?_, ?_⟩ | exact .one .v | exact .one .lst | exact .one .rptr | exact .one (.all rfl rfl) | exact .one .nil | exact .agg' (by repeat (first | exact trivial | refine ⟨?_, ?_⟩ | exact .v | exact .lst | exact .rptr | exact .all rfl rfl | exact .nil | exact .clo' trivial)) | exact .one (.clo' (by repeat (first | exact trivial | refine ⟨?_, ?_⟩ | exact .v | exact .lst | exact .rptr | exact .all rfl rfl | exact .nil | exact .clo' trivial))) | exact .one (.ptr' rfl (by repeat (first | exact trivial | refine ⟨?_, ?_⟩ | exact .v | exact .lst | exact .rptr | exact .all rfl rfl | exact .nil | exact .clo' trivial))) | exact .one (.own' rfl (by first | omega | (simp; done) | (simp; omega)) (by first | rw [List.drop_zero, List.take_of_length_le (by omega)] | (simp; done) | (simp; omega))))) (Nat.le_of_ble_eq_true rfl) ?_
        refine RunT.opg rfl rfl rfl rfl rfl rfl .move ?_
        refine RunT.opg rfl rfl rfl rfl rfl rfl (.bin rfl rfl (fun w => b_eqB w Try.underlying4) rfl) ?_
        refine RunT.op0 rfl rfl rfl rfl (.pick rfl) ?_
        refine RunT.op0 rfl rfl rfl rfl .move ?_
        refine RunT.cases (t := 47) rfl (fun g47 => ?_) (fun g47 => ?_)
        · have g47p := g47; (try simp only [decide_eq_true_eq, decide_eq_false_iff_not, Bool.not_eq_true', Bool.not_eq_false', Bool.and_eq_true, Bool.or_eq_true] at g47p)
          refine RunT.opg rfl rfl rfl (bo g47) rfl rfl (.bu bu23 rfl) ?_
          refine RunT.opg rfl rfl rfl (bo g47) rfl rfl .move ?_
          refine RunT.opg rfl rfl rfl (bo g47) rfl rfl .move ?_
          refine RunT.opg rfl rfl rfl (bo g47) rfl rfl (.bu bu23 rfl) ?_
          refine RunT.opg rfl rfl rfl (bo g47) rfl rfl (.bslice (d := false) sl24 rfl rfl (by intro y hy; rcases List.mem_cons.1 hy with rfl | hy; exact ⟨rfl, rfl, fun _ => rfl⟩; rcases List.mem_cons.1 hy with rfl | hy; exact ⟨rfl, rfl, fun _ => rfl⟩; exact (List.not_mem_nil hy).elim) (by decide)) ?_
          refine RunT.callg rfl rfl rfl (bo g47) rfl rfl rfl rfl (all_pc [⟨1, 0⟩, ⟨s - 1, u - 1⟩]) (by repeat (first | exact trivial | refine ⟨?_, ?_⟩ | exact .one .v | exact .one .lst | exact .one .rptr | exact .one (.all rfl rfl) | exact .one .nil | exact .agg' (by repeat (first | exact trivial | refine ⟨?_, ?_⟩ | exact .v | exact .lst | exact .rptr | exact .all rfl rfl | exact .nil | exact .clo' trivial)) | exact .one (.clo' (by repeat (first | exact trivial | refine ⟨?_, ?_⟩ | exact .v | exact .lst | exact .rptr | exact .all rfl rfl | exact .nil | exact .clo' trivial))) | exact .one (.ptr' rfl (by repeat (first | exact trivial | refine ⟨?_, ?_⟩ | exact .v | exact .lst | exact .rptr | exact .all rfl rfl | exact .nil | exact .clo' trivial))) | exact .one (.own' rfl (by first | omega | (simp; done) | (simp; omega)) (by first | rw [List.drop_zero, List.take_of_length_le (by omega)] | (simp; done) | (simp; omega))))) (Nat.le_of_ble_eq_true rfl) ?_
          refine RunT.opg rfl rfl rfl (bo g47) rfl rfl .move ?_
          refine RunT.opg rfl rfl rfl (bo g47) rfl rfl (.bin rfl rfl (fun w => b_eqB w Try.underlying4) rfl) ?_
          refine RunT.op0 rfl rfl rfl rfl (.pick (bo g47)) ?_
          refine RunT.op0 rfl rfl rfl rfl .assign ?_
          refine RunT.nil ?_
          refine T.ret ?_
          exact RetOk.v rfl rfl (by rw [pairB, g47])
        · exact absurd g47 (by simp only [Pty.may, beq_eq_false_iff_ne, ne_eq, Decidable.not_not]; first | (rw [decide_eq_decide]; omega) | (rw [decide_eq_false_iff_not]; omega) | (rw [decide_eq_true_iff]; omega))
    · have g24p := g24; (try simp only [decide_eq_true_eq, decide_eq_false_iff_not, Bool.not_eq_true', Bool.not_eq_false', Bool.and_eq_true, Bool.or_eq_true] at g24p)
      refine RunT.no rfl rfl rfl (bo g24) rfl ?_
      refine RunT.no rfl rfl rfl (bo g24) rfl ?_
      refine RunT.op0 rfl rfl rfl rfl (.pick (bo g24)) ?_
      refine RunT.op0 rfl rfl rfl rfl .move ?_
      refine RunT.no rfl rfl rfl rfl rfl ?_
      refine RunT.no rfl rfl rfl rfl rfl ?_
      refine RunT.op0 rfl rfl rfl rfl (.pick rfl) ?_
      refine RunT.op0 rfl rfl rfl rfl .move ?_
      refine RunT.no rfl rfl rfl rfl rfl ?_
      refine RunT.no rfl rfl rfl rfl rfl ?_
      refine RunT.no rfl rfl rfl rfl rfl ?_
      refine RunT.no rfl rfl rfl rfl rfl ?_
      refine RunT.op0 rfl rfl rfl rfl (.pick rfl) ?_
      refine RunT.op0 rfl rfl rfl rfl .assign ?_
      refine RunT.nil ?_
      refine T.seq ?_
      refine T.region ?_
      refine RunT.call0 rfl rfl rfl rfl rfl rfl (told_pc) (by repeat (first | exact trivial | refine ⟨?_, ?_⟩ | exact .one .v | exact .one .lst | exact .one .rptr | exact .one (.all rfl rfl) | exact .one .nil | exact .agg' (by repeat (first | exact trivial | refine ⟨?_, ?_⟩ | exact .v | exact .lst | exact .rptr | exact .all rfl rfl | exact .nil | exact .clo' trivial)) | exact .one (.clo' (by repeat (first | exact trivial | refine ⟨?_, ?_⟩ | exact .v | exact .lst | exact .rptr | exact .all rfl rfl | exact .nil | exact .clo' trivial))) | exact .one (.ptr' rfl (by repeat (first | exact trivial | refine ⟨?_, ?_⟩ | exact .v | exact .lst | exact .rptr | exact .all rfl rfl | exact .nil | exact .clo' trivial))) | exact .one (.own' rfl (by first | omega | (simp; done) | (simp; omega)) (by first | rw [List.drop_zero, List.take_of_length_le (by omega)] | (simp; done) | (simp; omega))))) (Nat.le_of_ble_eq_true rfl) ?_
      refine RunT.op0 rfl rfl rfl rfl .move ?_
      refine RunT.opg rfl rfl rfl rfl rfl rfl .move ?_
      refine RunT.opg rfl rfl rfl rfl rfl rfl .move ?_
      refine RunT.opg rfl rfl rfl rfl rfl rfl (.bu bu23 rfl) ?_
      refine RunT.callg rfl rfl rfl rfl rfl rfl rfl rfl (may_pc ⟨s - 1, u - 1⟩) (by repeat (first | exact trivial | refine ⟨?_, ?_⟩ | exact .one .v | exact .one .lst | exact .one .rptr | exact .one (.all rfl rfl) | exact .one .nil | exact .agg' (by repeat (first | exact trivial | refine ⟨?_, ?_⟩ | exact .v | exact .lst | exact .rptr | exact .all rfl rfl | exact .nil | exact .clo' trivial)) | exact .one (.clo' (by repeat (first | exact trivial | refine ⟨?_, ?_⟩ | exact .v | exact .lst | exact .rptr | exact .all rfl rfl | exact .nil | exact .clo' trivial))) | exact .one (.ptr' rfl (by repeat (first | exact trivial | refine ⟨?_, ?_⟩ | exact .v | exact .lst | exact .rptr | exact .all rfl rfl | exact .nil | exact .clo' trivial))) | exact .one (.own' rfl (by first | omega | (simp; done) | (simp; omega)) (by first | rw [List.drop_zero, List.take_of_length_le (by omega)] | (simp; done) | (simp; omega))))) (Nat.le_of_ble_eq_true rfl) ?_
      refine RunT.opg rfl rfl rfl rfl rfl rfl .move ?_
      refine RunT.opg rfl rfl rfl rfl rfl rfl (.bin rfl rfl (fun w => b_eqB w Try.underlying4) rfl) ?_
      refine RunT.op0 rfl rfl rfl rfl (.pick rfl) ?_
      refine RunT.op0 rfl rfl rfl rfl .move ?_
      refine RunT.cases (t := 47) rfl (fun g47 => ?_) (fun g47 => ?_)
      · have g47p := g47; (try simp only [decide_eq_true_eq, decide_eq_false_iff_not, Bool.not_eq_true', Bool.not_eq_false', Bool.and_eq_true, Bool.or_eq_true] at g47p)
        refine RunT.opg rfl rfl rfl (bo g47) rfl rfl (.bu bu23 rfl) ?_
        refine RunT.opg rfl rfl rfl (bo g47) rfl rfl .move ?_
        refine RunT.opg rfl rfl rfl (bo g47) rfl rfl .move ?_
        refine RunT.opg rfl rfl rfl (bo g47) rfl rfl (.bu bu23 rfl) ?_
        refine RunT.opg rfl rfl rfl (bo g47) rfl rfl (.bslice (d := false) sl24 rfl rfl (by intro y hy; rcases List.mem_cons.1 hy with rfl | hy; exact ⟨rfl, rfl, fun _ => rfl⟩; rcases List.mem_cons.1 hy with rfl | hy; exact ⟨rfl, rfl, fun _ => rfl⟩; exact (List.not_mem_nil hy).elim) (by decide)) ?_
        refine RunT.callg rfl rfl rfl (bo g47) rfl rfl rfl rfl (all_pc [⟨1, 0⟩, ⟨s - 1, u - 1⟩]) (by repeat (first | exact trivial | refine ⟨?_, ?_⟩ | exact .one .v | exact .one .lst | exact .one .rptr | exact .one (.all rfl rfl) | exact .one .nil | exact .agg' (by repeat (first | exact trivial | refine ⟨?_, ?_⟩ | exact .v | exact .lst | exact .rptr | exact .all rfl rfl | exact .nil | exact .clo' trivial)) | exact .one (.clo' (by repeat (first | exact trivial | refine ⟨?_, ?_⟩ | exact .v | exact .lst | exact .rptr | exact .all rfl rfl | exact .nil | exact .clo' trivial))) | exact .one (.ptr' rfl (by repeat (first | exact trivial | refine ⟨?_, ?_⟩ | exact .v | exact .lst | exact .rptr | exact .all rfl rfl | exact .nil | exact .clo' trivial))) | exact .one (.own' rfl (by first | omega | (simp; done) | (simp; omega)) (by first | rw [List.drop_zero, List.take_of_length_le (by omega)] | (simp; done) | (simp; omega))))) (Nat.le_of_ble_eq_true rfl) ?_
        refine RunT.opg rfl rfl rfl (bo g47) rfl rfl .move ?_
        refine RunT.opg rfl rfl rfl (bo g47) rfl rfl (.bin rfl rfl (fun w => b_eqB w Try.underlying4) rfl) ?_
        refine RunT.op0 rfl rfl rfl rfl (.pick (bo g47)) ?_
        refine RunT.op0 rfl rfl rfl rfl .assign ?_
        refine RunT.nil ?_
        refine T.ret ?_
        exact RetOk.v rfl rfl (by rw [pairB, g47])
      · exact absurd g47 (by simp only [Pty.may, beq_eq_false_iff_ne, ne_eq, Decidable.not_not]; first | (rw [decide_eq_decide]; omega) | (rw [decide_eq_false_iff_not]; omega) | (rw [decide_eq_true_iff]; omega))
  · have g20p := g20; (try simp only [decide_eq_true_eq, decide_eq_false_iff_not, Bool.not_eq_true', Bool.not_eq_false', Bool.and_eq_true, Bool.or_eq_true] at g20p)
    refine RunT.no rfl rfl rfl (bo g20) rfl ?_
    refine RunT.no rfl rfl rfl (bo g20) rfl ?_
    refine RunT.op0 rfl rfl rfl rfl (.pick (bo g20)) ?_
    refine RunT.op0 rfl rfl rfl rfl .move ?_
    refine RunT.no rfl rfl rfl rfl rfl ?_
    refine RunT.no rfl rfl rfl rfl rfl ?_
    refine RunT.op0 rfl rfl rfl rfl (.pick rfl) ?_
    refine RunT.op0 rfl rfl rfl rfl .move ?_
    refine RunT.no rfl rfl rfl rfl rfl ?_
    refine RunT.no rfl rfl rfl rfl rfl ?_
    refine RunT.op0 rfl rfl rfl rfl (.pick rfl) ?_
    refine RunT.op0 rfl rfl rfl rfl .move ?_
    refine RunT.no rfl rfl rfl rfl rfl ?_
    refine RunT.no rfl rfl rfl rfl rfl ?_
    refine RunT.no rfl rfl rfl rfl rfl ?_
    refine RunT.no rfl rfl rfl rfl rfl ?_
    refine RunT.op0 rfl rfl rfl rfl (.pick rfl) ?_
    refine RunT.op0 rfl rfl rfl rfl .assign ?_
    refine RunT.nil ?_
    refine T.seq ?_
    refine T.region ?_
    refine RunT.call0 rfl rfl rfl rfl rfl rfl (told_pc) (by repeat (first | exact trivial | refine ⟨?_, ?_⟩ | exact .one .v | exact .one .lst | exact .one .rptr | exact .one (.all rfl rfl) | exact .one .nil | exact .agg' (by repeat (first | exact trivial | refine ⟨?_, ?_⟩ | exact .v | exact .lst | exact .rptr | exact .all rfl rfl | exact .nil | exact .clo' trivial)) | exact .one (.clo' (by repeat (first | exact trivial | refine ⟨?_, ?_⟩ | exact .v | exact .lst | exact .rptr | exact .all rfl rfl | exact .nil | exact .clo' trivial))) | exact .one (.ptr' rfl (by repeat (first | exact trivial | refine ⟨?_, ?_⟩ | exact .v | exact .lst | exact .rptr | exact .all rfl rfl | exact .nil | exact .clo' trivial))) | exact .one (.own' rfl (by first | omega | (simp; done) | (simp; omega)) (by first | rw [List.drop_zero, List.take_of_length_le (by omega)] | (simp; done) | (simp; omega))))) (Nat.le_of_ble_eq_true rfl) ?_
    refine RunT.op0 rfl rfl rfl rfl .move ?_
    refine RunT.opg rfl rfl rfl rfl rfl rfl .move ?_
    refine RunT.opg rfl rfl rfl rfl rfl rfl .move ?_
    refine RunT.opg rfl rfl rfl rfl rfl rfl (.bu bu23 rfl) ?_
    refine RunT.callg rfl rfl rfl rfl rfl rfl rfl rfl (may_pc ⟨s - 1, u - 1⟩) (by repeat (first | exact trivial | refine ⟨?_, ?_⟩ | exact .one .v | exact .one .lst | exact .one .rptr | exact .one (.all rfl rfl) | exact .one .nil | exact .agg' (by repeat (first | exact trivial | refine ⟨?_, ?_⟩ | exact .v | exact .lst | exact .rptr | exact .all rfl rfl | exact .nil | exact .clo' trivial)) | exact .one (.clo' (by repeat (first | exact trivial | refine ⟨?_, ?_⟩ | exact .v | exact .lst | exact .rptr | exact .all rfl rfl | exact .nil | exact .clo' trivial))) | exact .one (.ptr' rfl (by repeat (first | exact trivial | refine ⟨?_, ?_⟩ | exact .v | exact .lst | exact .rptr | exact .all rfl rfl | exact .nil | exact .clo' trivial))) | exact .one (.own' rfl (by first | omega | (simp; done) | (simp; omega)) (by first | rw [List.drop_zero, List.take_of_length_le (by omega)] | (simp; done) | (simp; omega))))) (Nat.le_of_ble_eq_true rfl) ?_
    refine RunT.opg rfl rfl rfl rfl rfl rfl .move ?_
    refine RunT.opg rfl rfl rfl rfl rfl rfl (.bin rfl rfl (fun w => b_eqB w Try.underlying4) rfl) ?_
    refine RunT.op0 rfl rfl rfl rfl (.pick rfl) ?_
    refine RunT.op0 rfl rfl rfl rfl .move ?_
    refine RunT.cases (t := 47) rfl (fun g47 => ?_) (fun g47 => ?_)
    · have g47p := g47; (try simp only [decide_eq_true_eq, decide_eq_false_iff_not, Bool.not_eq_true', Bool.not_eq_false', Bool.and_eq_true, Bool.or_eq_true] at g47p)
      refine RunT.opg rfl rfl rfl (bo g47) rfl rfl (.bu bu23 rfl) ?_
      refine RunT.opg rfl rfl rfl (bo g47) rfl rfl .move ?_
      refine RunT.opg rfl rfl rfl (bo g47) rfl rfl .move ?_
      refine RunT.opg rfl rfl rfl (bo g47) rfl rfl (.bu bu23 rfl) ?_
      refine RunT.opg rfl rfl rfl (bo g47) rfl rfl (.bslice (d := false) sl24 rfl rfl (by intro y hy; rcases List.mem_cons.1 hy with rfl | hy; exact ⟨rfl, rfl, fun _ => rfl⟩; rcases List.mem_cons.1 hy with rfl | hy; exact ⟨rfl, rfl, fun _ => rfl⟩; exact (List.not_mem_nil hy).elim) (by decide)) ?_
      refine RunT.callg rfl rfl rfl (bo g47) rfl rfl rfl rfl (all_pc [⟨1, 0⟩, ⟨s - 1, u - 1⟩]) (by repeat (first | exact trivial | refine ⟨?_, ?_⟩ | exact .one .v | exact .one .lst | exact .one .rptr | exact .one (.all rfl rfl) | exact .one .nil | exact .agg' (by repeat (first | exact trivial | refine ⟨?_, ?_⟩ | exact .v | exact .lst | exact .rptr | exact .all rfl rfl | exact .nil | exact .clo' trivial)) | exact .one (.clo' (by repeat (first | exact trivial | refine ⟨?_, ?_⟩ | exact .v | exact .lst | exact .rptr | exact .all rfl rfl | exact .nil | exact .clo' trivial))) | exact .one (.ptr' rfl (by repeat (first | exact trivial | refine ⟨?_, ?_⟩ | exact .v | exact .lst | exact .rptr | exact .all rfl rfl | exact .nil | exact .clo' trivial))) | exact .one (.own' rfl (by first | omega | (simp; done) | (simp; omega)) (by first | rw [List.drop_zero, List.take_of_length_le (by omega)] | (simp; done) | (simp; omega))))) (Nat.le_of_ble_eq_true rfl) ?_
      refine RunT.opg rfl rfl rfl (bo g47) rfl rfl .move ?_
      refine RunT.opg rfl rfl rfl (bo g47) rfl rfl (.bin rfl rfl (fun w => b_eqB w Try.underlying4) rfl) ?_
      refine RunT.op0 rfl rfl rfl rfl (.pick (bo g47)) ?_
      refine RunT.op0 rfl rfl rfl rfl .assign ?_
      refine RunT.nil ?_
      refine T.ret ?_
      exact RetOk.v rfl rfl (by rw [pairB, g47])
    · exact absurd g47 (by simp only [Pty.may, beq_eq_false_iff_ne, ne_eq, Decidable.not_not]; first | (rw [decide_eq_decide]; omega) | (rw [decide_eq_false_iff_not]; omega) | (rw [decide_eq_true_iff]; omega))

set_option maxRecDepth 100000 in
theorem partyAll_lifted (os : Os) (started : os.Started) (H : Type) (enc : TypeId × Value → H) :
    ReturnsInHanded {} Try.checked os 4 .any (Rows.partyAllSpec.pre6 enc Try.prog Try.f4 Rows.partyAllRow.domain false) (Rows.partyAllSpec.post enc Try.prog Try.f4 false true false false) := by
  refine returnsInHanded_of_change (C := Try.checked) Try.own started (by kernel_rfl) Try.func4 (ChangeSpec.witness6 (enc := enc) (C := Try.checked) false ⟨#[], #[.int .i64 0, .int .i64 0], []⟩ 8 (by kernel_rfl) (by kernel_rfl) (by kernel_rfl) (by kernel_rfl)) ?_
  intro W base args ds gs before hval0 hW hcnd _
  have hval : ∀ (j : Nat) t v, Try.f4.params[j]? = some t → args[j]? = some v → Value.okWide Try.prog W .any base t v := hval0
  have hW' := hW
  obtain ⟨p, q, hA0, hV, hpq, hfz, hnd⟩ := hW
  have hA : DataW.TrodAll enc Try.prog W 0 (fun _ => true) true Try.f4.params.toList args.toList ds p := hA0
  rw [Try.params4] at hA hval
  obtain ⟨v0, vs0, d0, ds0, p0, q0, hargs, rfl, rfl, h0, r0⟩ := trodAll_cons hA
  obtain ⟨v1, vs1, d1, ds1, p1, q1, rfl, rfl, rfl, h1, r1⟩ := trodAll_cons r0
  obtain ⟨rfl, rfl, rfl⟩ := trodAll_nil r1
  obtain rfl : args = #[v0, v1] := by cases args; simp_all
  obtain ⟨rfl, rfl⟩ := trodVars_none hV
  obtain ⟨a0, k0, x0⟩ := (o3).one Try.underlying3 rfl (fun n => .v (.int .i64 n)) (fun _ => rfl) (hval 0 3 v0 rfl rfl) h0
  obtain ⟨a1, k1, x1⟩ := (o3).one Try.underlying3 rfl (fun n => .v (.int .i64 n)) (fun _ => rfl) (hval 1 3 v1 rfl rfl) h1
  exact PC.row Try.laidOut (pall_pc a0 a1) rfl (vrs_arr (vrs_cons x0 (vrs_cons x1 (vrs_nil)))) hW' rfl rfl (by kernel_rfl) rfl Try.underlying4
theorem PartyAll_holds : Rows.PartyAllSaid :=
  OpenClaim.holds_of_wide 4 Try.f4 rfl rfl rfl rfl rfl rfl rfl ⟨rfl, rfl, rfl, rfl, rfl⟩ rfl rfl rfl rfl rfl (by kernel_rfl) Try.func4 (by kernel_rfl)
    (of_decide_eq_true (by kernel_rfl)) (by unfold Func.isWrapper; first | (rw [if_pos (by decide +kernel)]; kernel_rfl) | (rw [if_neg (by decide +kernel)]; exact ⟨rfl, rfl⟩))
    (fun os started H enc _ => partyAll_lifted os started H enc)
end Go.Proofs.Ytijfhnpmdhonhaa
