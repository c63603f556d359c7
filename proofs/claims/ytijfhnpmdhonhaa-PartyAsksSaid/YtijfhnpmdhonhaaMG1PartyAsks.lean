/- PartyAsks: the law PartyAsks of the given program returns true at every input, and the input reads as before. No condition. -/
import Derived.Test.YtijfhnpmdhonhaaMG1
import Derived.Test.YtijfhnpmdhonhaaRows
import Derived.ProofKit
set_option linter.unusedVariables false
set_option linter.unusedSimpArgs false
set_option maxRecDepth 100000
namespace Go.Proofs.Ytijfhnpmdhonhaa
open Go Go.Sh Go.ChangeShapes Go.WideShapes Go.ChangeAt Go.RowKit
attribute [local irreducible] Go.Sh.T Go.Sh.RunT Go.Sh.RunD
theorem Try.own : ownKnob Try.prog.godebug = none := by kernel_rfl
theorem Try.laidOut : laidOutB Try.prog = true := by kernel_rfl
theorem asks_pc (p : Pty) (a b : List Pty) : PC Try.prog false 3 [pS p, .lst (a.map pS), .lst (b.map pS)] (.v (.bool (true))) := by
  have hla : (a.map pS).length = a.length := List.length_map ..
  have hlb : (b.map pS).length = b.length := List.length_map ..
  refine PC.of_T Try.func3 rfl rfl (n := 47) rfl rfl (.inr rfl) ?_
  intro base B w0
  refine T.seq ?_
  refine T.region ?_
  refine RunT.op0 rfl rfl rfl rfl (.box rfl rfl) ?_
  refine RunT.op0 rfl rfl rfl rfl .assign ?_
  refine RunT.nil ?_
  refine T.seq ?_
  refine T.seq ?_
  refine T.region ?_
  refine RunT.op0 rfl rfl rfl rfl .move ?_
  refine RunT.op0 rfl rfl rfl rfl (by first | exact .lenL Try.underlying24 rfl rfl | exact .lenO Try.underlying24 rfl rfl | exact .lenV rfl (fun _ w => len_nil rfl Try.underlying24 w) rfl) ?_
  refine RunT.op0 rfl rfl rfl rfl (.bin rfl rfl (fun w => b_gtr w) rfl) ?_
  refine RunT.op0 rfl rfl rfl rfl .move ?_
  refine RunT.cases (t := 10) rfl (fun g10 => ?_) (fun g10 => ?_)
  · have g10p := g10; (try simp only [decide_eq_true_eq, decide_eq_false_iff_not, Bool.not_eq_true', Bool.not_eq_false', Bool.and_eq_true, Bool.or_eq_true] at g10p)
    refine RunT.no rfl rfl rfl (bo g10) rfl ?_
    refine RunT.no rfl rfl rfl (bo g10) rfl ?_
    refine RunT.no rfl rfl rfl (bo g10) rfl ?_
    refine RunT.op0 rfl rfl rfl rfl (.pick (bo g10)) ?_
    refine RunT.nil ?_
    refine T.condT rfl ?_
    refine T.seq ?_
    refine T.region ?_
    refine RunT.call0 rfl rfl rfl rfl rfl rfl (told_pc) (by repeat (first | exact trivial | refine ⟨?_, ?_⟩ | exact .one .v | exact .one .lst | exact .one .rptr | exact .one (.all rfl rfl) | exact .one .nil | exact .agg' (by repeat (first | exact trivial | refine ⟨?_, ?_⟩ | exact .v | exact .lst | exact .rptr | exact .all rfl rfl | exact .nil | exact .clo' trivial)) | exact .one (.clo' (by repeat (first | exact trivial | refine ⟨?_, ?_⟩ | exact .v | exact .lst | exact .rptr | exact .all rfl rfl | exact .nil | exact .clo' trivial))) | exact .one (.ptr' rfl (by repeat (first | exact trivial | refine ⟨?_, ?_⟩ | exact .v | exact .lst | exact .rptr | exact .all rfl rfl | exact .nil | exact .clo' trivial))))) (Nat.le_of_ble_eq_true rfl) ?_
    refine RunT.op0 rfl rfl rfl rfl .assign ?_
    refine RunT.nil ?_
    refine T.ret ?_
    exact RetOk.v rfl rfl rfl
  · have g10p := g10; (try simp only [decide_eq_true_eq, decide_eq_false_iff_not, Bool.not_eq_true', Bool.not_eq_false', Bool.and_eq_true, Bool.or_eq_true] at g10p)
    refine RunT.opg rfl rfl rfl (bo g10) rfl rfl .move ?_
    refine RunT.opg rfl rfl rfl (bo g10) rfl rfl (by first | exact .lenL Try.underlying24 rfl rfl | exact .lenO Try.underlying24 rfl rfl | exact .lenV rfl (fun _ w => len_nil rfl Try.underlying24 w) rfl) ?_
    refine RunT.opg rfl rfl rfl (bo g10) rfl rfl (.bin rfl rfl (fun w => b_gtr w) rfl) ?_
    refine RunT.op0 rfl rfl rfl rfl (.pick (bo g10)) ?_
    refine RunT.nil ?_
    refine T.cond2 rfl (fun c14 => ?_) (fun c14 => ?_)
    · have c14p := c14; (try simp only [decide_eq_true_eq, decide_eq_false_iff_not, Bool.not_eq_true', Bool.not_eq_false', Bool.and_eq_true, Bool.or_eq_true] at c14p)
      refine T.seq ?_
      refine T.region ?_
      refine RunT.call0 rfl rfl rfl rfl rfl rfl (told_pc) (by repeat (first | exact trivial | refine ⟨?_, ?_⟩ | exact .one .v | exact .one .lst | exact .one .rptr | exact .one (.all rfl rfl) | exact .one .nil | exact .agg' (by repeat (first | exact trivial | refine ⟨?_, ?_⟩ | exact .v | exact .lst | exact .rptr | exact .all rfl rfl | exact .nil | exact .clo' trivial)) | exact .one (.clo' (by repeat (first | exact trivial | refine ⟨?_, ?_⟩ | exact .v | exact .lst | exact .rptr | exact .all rfl rfl | exact .nil | exact .clo' trivial))) | exact .one (.ptr' rfl (by repeat (first | exact trivial | refine ⟨?_, ?_⟩ | exact .v | exact .lst | exact .rptr | exact .all rfl rfl | exact .nil | exact .clo' trivial))))) (Nat.le_of_ble_eq_true rfl) ?_
      refine RunT.op0 rfl rfl rfl rfl .assign ?_
      refine RunT.nil ?_
      refine T.ret ?_
      exact RetOk.v rfl rfl rfl
    · have c14p := c14; (try simp only [decide_eq_true_eq, decide_eq_false_iff_not, Bool.not_eq_true', Bool.not_eq_false', Bool.and_eq_true, Bool.or_eq_true] at c14p)
      refine T.skip ?_
      refine T.seq ?_
      refine T.draw (wr := []) mixed rfl rfl ?_ rfl
      refine RunD.call0 rfl rfl rfl rfl rfl (told_pc) (by repeat (first | exact trivial | refine ⟨?_, ?_⟩ | exact .one .v | exact .one .lst | exact .one .rptr | exact .one (.all rfl rfl) | exact .one .nil | exact .agg' (by repeat (first | exact trivial | refine ⟨?_, ?_⟩ | exact .v | exact .lst | exact .rptr | exact .all rfl rfl | exact .nil | exact .clo' trivial)) | exact .one (.clo' (by repeat (first | exact trivial | refine ⟨?_, ?_⟩ | exact .v | exact .lst | exact .rptr | exact .all rfl rfl | exact .nil | exact .clo' trivial))) | exact .one (.ptr' rfl (by repeat (first | exact trivial | refine ⟨?_, ?_⟩ | exact .v | exact .lst | exact .rptr | exact .all rfl rfl | exact .nil | exact .clo' trivial))))) (Nat.le_of_ble_eq_true rfl) rfl ?_
      refine RunD.op0 rfl rfl rfl .move rfl ?_
      refine RunD.opg rfl rfl rfl rfl rfl (by first | exact .loadP ty23 rfl rfl rfl | exact .loadR ty23 rfl rfl | exact .loadE ty23 rfl rfl (by assumption) rfl) rfl ?_
      refine RunD.callg rfl rfl rfl rfl rfl rfl rfl (may_pc p) (by repeat (first | exact trivial | refine ⟨?_, ?_⟩ | exact .one .v | exact .one .lst | exact .one .rptr | exact .one (.all rfl rfl) | exact .one .nil | exact .agg' (by repeat (first | exact trivial | refine ⟨?_, ?_⟩ | exact .v | exact .lst | exact .rptr | exact .all rfl rfl | exact .nil | exact .clo' trivial)) | exact .one (.clo' (by repeat (first | exact trivial | refine ⟨?_, ?_⟩ | exact .v | exact .lst | exact .rptr | exact .all rfl rfl | exact .nil | exact .clo' trivial))) | exact .one (.ptr' rfl (by repeat (first | exact trivial | refine ⟨?_, ?_⟩ | exact .v | exact .lst | exact .rptr | exact .all rfl rfl | exact .nil | exact .clo' trivial))))) (Nat.le_of_ble_eq_true rfl) rfl ?_
      refine RunD.opg rfl rfl rfl rfl rfl (by first | exact .loadP ty23 rfl rfl rfl | exact .loadR ty23 rfl rfl | exact .loadE ty23 rfl rfl (by assumption) rfl) rfl ?_
      refine RunD.callg rfl rfl rfl rfl rfl rfl rfl (rmay_pc p) (by repeat (first | exact trivial | refine ⟨?_, ?_⟩ | exact .one .v | exact .one .lst | exact .one .rptr | exact .one (.all rfl rfl) | exact .one .nil | exact .agg' (by repeat (first | exact trivial | refine ⟨?_, ?_⟩ | exact .v | exact .lst | exact .rptr | exact .all rfl rfl | exact .nil | exact .clo' trivial)) | exact .one (.clo' (by repeat (first | exact trivial | refine ⟨?_, ?_⟩ | exact .v | exact .lst | exact .rptr | exact .all rfl rfl | exact .nil | exact .clo' trivial))) | exact .one (.ptr' rfl (by repeat (first | exact trivial | refine ⟨?_, ?_⟩ | exact .v | exact .lst | exact .rptr | exact .all rfl rfl | exact .nil | exact .clo' trivial))))) (Nat.le_of_ble_eq_true rfl) rfl ?_
      refine RunD.opg rfl rfl rfl rfl rfl (.bin rfl rfl (fun w => b_eqB w Try.underlying4) rfl) rfl ?_
      refine RunD.op0 rfl rfl rfl (.pick rfl) rfl ?_
      refine RunD.op0 rfl rfl rfl .move rfl ?_
      refine RunD.opg rfl rfl rfl (bo (beq_self_eq_true p.may)) rfl .move rfl ?_
      refine RunD.callg rfl rfl rfl (bo (beq_self_eq_true p.may)) rfl rfl rfl (all_pc a) (by repeat (first | exact trivial | refine ⟨?_, ?_⟩ | exact .one .v | exact .one .lst | exact .one .rptr | exact .one (.all rfl rfl) | exact .one .nil | exact .agg' (by repeat (first | exact trivial | refine ⟨?_, ?_⟩ | exact .v | exact .lst | exact .rptr | exact .all rfl rfl | exact .nil | exact .clo' trivial)) | exact .one (.clo' (by repeat (first | exact trivial | refine ⟨?_, ?_⟩ | exact .v | exact .lst | exact .rptr | exact .all rfl rfl | exact .nil | exact .clo' trivial))) | exact .one (.ptr' rfl (by repeat (first | exact trivial | refine ⟨?_, ?_⟩ | exact .v | exact .lst | exact .rptr | exact .all rfl rfl | exact .nil | exact .clo' trivial))))) (Nat.le_of_ble_eq_true rfl) rfl ?_
      refine RunD.opg rfl rfl rfl (bo (beq_self_eq_true p.may)) rfl .move rfl ?_
      refine RunD.callg rfl rfl rfl (bo (beq_self_eq_true p.may)) rfl rfl rfl (rall_pc a (by omega)) (by repeat (first | exact trivial | refine ⟨?_, ?_⟩ | exact .one .v | exact .one .lst | exact .one .rptr | exact .one (.all rfl rfl) | exact .one .nil | exact .agg' (by repeat (first | exact trivial | refine ⟨?_, ?_⟩ | exact .v | exact .lst | exact .rptr | exact .all rfl rfl | exact .nil | exact .clo' trivial)) | exact .one (.clo' (by repeat (first | exact trivial | refine ⟨?_, ?_⟩ | exact .v | exact .lst | exact .rptr | exact .all rfl rfl | exact .nil | exact .clo' trivial))) | exact .one (.ptr' rfl (by repeat (first | exact trivial | refine ⟨?_, ?_⟩ | exact .v | exact .lst | exact .rptr | exact .all rfl rfl | exact .nil | exact .clo' trivial))))) (Nat.le_of_ble_eq_true rfl) rfl ?_
      refine RunD.opg rfl rfl rfl (bo (beq_self_eq_true p.may)) rfl (.bin rfl rfl (fun w => b_eqB w Try.underlying4) rfl) rfl ?_
      refine RunD.op0 rfl rfl rfl (.pick (bo (beq_self_eq_true p.may))) rfl ?_
      refine RunD.op0 rfl rfl rfl .move rfl ?_
      refine RunD.opg rfl rfl rfl (bo (beq_self_eq_true (allP a))) rfl .move rfl ?_
      refine RunD.callg rfl rfl rfl (bo (beq_self_eq_true (allP a))) rfl rfl rfl (sum_pc a) (by repeat (first | exact trivial | refine ⟨?_, ?_⟩ | exact .one .v | exact .one .lst | exact .one .rptr | exact .one (.all rfl rfl) | exact .one .nil | exact .agg' (by repeat (first | exact trivial | refine ⟨?_, ?_⟩ | exact .v | exact .lst | exact .rptr | exact .all rfl rfl | exact .nil | exact .clo' trivial)) | exact .one (.clo' (by repeat (first | exact trivial | refine ⟨?_, ?_⟩ | exact .v | exact .lst | exact .rptr | exact .all rfl rfl | exact .nil | exact .clo' trivial))) | exact .one (.ptr' rfl (by repeat (first | exact trivial | refine ⟨?_, ?_⟩ | exact .v | exact .lst | exact .rptr | exact .all rfl rfl | exact .nil | exact .clo' trivial))))) (Nat.le_of_ble_eq_true rfl) rfl ?_
      refine RunD.opg rfl rfl rfl (bo (beq_self_eq_true (allP a))) rfl .move rfl ?_
      refine RunD.callg rfl rfl rfl (bo (beq_self_eq_true (allP a))) rfl rfl rfl (rsum_pc a (by omega)) (by repeat (first | exact trivial | refine ⟨?_, ?_⟩ | exact .one .v | exact .one .lst | exact .one .rptr | exact .one (.all rfl rfl) | exact .one .nil | exact .agg' (by repeat (first | exact trivial | refine ⟨?_, ?_⟩ | exact .v | exact .lst | exact .rptr | exact .all rfl rfl | exact .nil | exact .clo' trivial)) | exact .one (.clo' (by repeat (first | exact trivial | refine ⟨?_, ?_⟩ | exact .v | exact .lst | exact .rptr | exact .all rfl rfl | exact .nil | exact .clo' trivial))) | exact .one (.ptr' rfl (by repeat (first | exact trivial | refine ⟨?_, ?_⟩ | exact .v | exact .lst | exact .rptr | exact .all rfl rfl | exact .nil | exact .clo' trivial))))) (Nat.le_of_ble_eq_true rfl) rfl ?_
      refine RunD.opg rfl rfl rfl (bo (beq_self_eq_true (allP a))) rfl (.bin rfl rfl (fun w => b_eql w) rfl) rfl ?_
      refine RunD.op0 rfl rfl rfl (.pick (bo (beq_self_eq_true (allP a)))) rfl ?_
      refine RunD.op0 rfl rfl rfl .move rfl ?_
      refine RunD.opg rfl rfl rfl (bo (decide_eq_true (Eq.refl (sumP a)))) rfl .move rfl ?_
      refine RunD.opg rfl rfl rfl (bo (decide_eq_true (Eq.refl (sumP a)))) rfl .move rfl ?_
      refine RunD.callg rfl rfl rfl (bo (decide_eq_true (Eq.refl (sumP a)))) rfl rfl rfl (same_pc a b (by omega)) (by repeat (first | exact trivial | refine ⟨?_, ?_⟩ | exact .one .v | exact .one .lst | exact .one .rptr | exact .one (.all rfl rfl) | exact .one .nil | exact .agg' (by repeat (first | exact trivial | refine ⟨?_, ?_⟩ | exact .v | exact .lst | exact .rptr | exact .all rfl rfl | exact .nil | exact .clo' trivial)) | exact .one (.clo' (by repeat (first | exact trivial | refine ⟨?_, ?_⟩ | exact .v | exact .lst | exact .rptr | exact .all rfl rfl | exact .nil | exact .clo' trivial))) | exact .one (.ptr' rfl (by repeat (first | exact trivial | refine ⟨?_, ?_⟩ | exact .v | exact .lst | exact .rptr | exact .all rfl rfl | exact .nil | exact .clo' trivial))))) (Nat.le_of_ble_eq_true rfl) rfl ?_
      refine RunD.opg rfl rfl rfl (bo (decide_eq_true (Eq.refl (sumP a)))) rfl .move rfl ?_
      refine RunD.opg rfl rfl rfl (bo (decide_eq_true (Eq.refl (sumP a)))) rfl .move rfl ?_
      refine RunD.callg rfl rfl rfl (bo (decide_eq_true (Eq.refl (sumP a)))) rfl rfl rfl (rsame_pc a b (by omega)) (by repeat (first | exact trivial | refine ⟨?_, ?_⟩ | exact .one .v | exact .one .lst | exact .one .rptr | exact .one (.all rfl rfl) | exact .one .nil | exact .agg' (by repeat (first | exact trivial | refine ⟨?_, ?_⟩ | exact .v | exact .lst | exact .rptr | exact .all rfl rfl | exact .nil | exact .clo' trivial)) | exact .one (.clo' (by repeat (first | exact trivial | refine ⟨?_, ?_⟩ | exact .v | exact .lst | exact .rptr | exact .all rfl rfl | exact .nil | exact .clo' trivial))) | exact .one (.ptr' rfl (by repeat (first | exact trivial | refine ⟨?_, ?_⟩ | exact .v | exact .lst | exact .rptr | exact .all rfl rfl | exact .nil | exact .clo' trivial))))) (Nat.le_of_ble_eq_true rfl) rfl ?_
      refine RunD.opg rfl rfl rfl (bo (decide_eq_true (Eq.refl (sumP a)))) rfl (.bin rfl rfl (fun w => b_eqB w Try.underlying4) rfl) rfl ?_
      refine RunD.op0 rfl rfl rfl (.pick (bo (decide_eq_true (Eq.refl (sumP a))))) rfl ?_
      refine RunD.op0 rfl rfl rfl .assign rfl ?_
      refine RunD.nil (by kernel_rfl) ⟨rfl, rfl, ?_⟩
      refine T.ret ?_
      exact RetOk.v rfl rfl (by simp)

set_option maxRecDepth 100000 in
theorem partyAsks_lifted (os : Os) (started : os.Started) (H : Type) (enc : TypeId × Value → H) :
    ReturnsInHanded {} Try.checked os 3 .any (Rows.partyAsksSpec.pre6 enc Try.prog Try.f3 Rows.partyAsksRow.domain false) (Rows.partyAsksSpec.post enc Try.prog Try.f3 false true false false) := by
  refine returnsInHanded_of_change (C := Try.checked) Try.own started (by kernel_rfl) Try.func3 (ChangeSpec.witness6 (enc := enc) (C := Try.checked) false ⟨#[], #[.agg #[.int .i64 0, .int .i64 0], .slice none 0 0, .slice none 0 0], []⟩ 8 (by kernel_rfl) (by kernel_rfl) (by kernel_rfl) (by kernel_rfl)) ?_
  intro W base args ds gs before hval0 hW hcnd _
  have hval : ∀ (j : Nat) t v, Try.f3.params[j]? = some t → args[j]? = some v → Value.okWide Try.prog W .any base t v := hval0
  have hW' := hW
  obtain ⟨p, q, hA0, hV, hpq, hfz, hnd⟩ := hW
  have hA : DataW.TrodAll enc Try.prog W 0 (fun _ => true) true Try.f3.params.toList args.toList ds p := hA0
  rw [Try.params3] at hA hval
  obtain ⟨v0, vs0, d0, ds0, p0, q0, hargs, rfl, rfl, h0, r0⟩ := trodAll_cons hA
  obtain ⟨v1, vs1, d1, ds1, p1, q1, rfl, rfl, rfl, h1, r1⟩ := trodAll_cons r0
  obtain ⟨v2, vs2, d2, ds2, p2, q2, rfl, rfl, rfl, h2, r2⟩ := trodAll_cons r1
  obtain ⟨rfl, rfl, rfl⟩ := trodAll_nil r2
  obtain rfl : args = #[v0, v1, v2] := by cases args; simp_all
  obtain ⟨rfl, rfl⟩ := trodVars_none hV
  obtain ⟨a0, k0, x0⟩ := (o23).agg Try.underlying23 rfl (hval 0 23 v0 rfl rfl) h0
  obtain ⟨a1, k1, x1⟩ := (o24).one Try.underlying24 rfl (fun l => .lst (l.map pS)) (fun _ => rfl) (hval 1 24 v1 rfl rfl) h1
  obtain ⟨a2, k2, x2⟩ := (o24).one Try.underlying24 rfl (fun l => .lst (l.map pS)) (fun _ => rfl) (hval 2 24 v2 rfl rfl) h2
  exact PC.row Try.laidOut (asks_pc a0 a1 a2) rfl (vrs_arr (vrs_cons x0 (vrs_cons x1 (vrs_cons x2 (vrs_nil))))) hW' rfl rfl (by kernel_rfl) rfl Try.underlying4
theorem PartyAsks_holds : Rows.PartyAsksSaid :=
  OpenClaim.holds_of_wide 3 Try.f3 rfl rfl rfl rfl rfl rfl rfl ⟨rfl, rfl, rfl, rfl, rfl⟩ rfl rfl rfl rfl rfl (by kernel_rfl) Try.func3 (by kernel_rfl)
    (of_decide_eq_true (by kernel_rfl)) (by unfold Func.isWrapper; first | (rw [if_pos (by decide +kernel)]; kernel_rfl) | (rw [if_neg (by decide +kernel)]; exact ⟨rfl, rfl⟩))
    (fun os started H enc _ => partyAsks_lifted os started H enc)
end Go.Proofs.Ytijfhnpmdhonhaa
