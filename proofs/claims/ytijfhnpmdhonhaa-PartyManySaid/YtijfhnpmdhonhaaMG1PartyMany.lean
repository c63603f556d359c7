/- PartyMany: the law PartyMany of the given program returns true at every input, and the input reads as before. No condition. -/
import Derived.Test.YtijfhnpmdhonhaaMG1
import Derived.Test.YtijfhnpmdhonhaaRows
import Derived.ProofKit
set_option linter.unusedVariables false
set_option linter.unusedSimpArgs false
set_option maxRecDepth 100000
namespace Go.Proofs.Ytijfhnpmdhonhaa
open Go Go.Sh Go.ChangeShapes Go.WideShapes Go.ChangeAt Go.RowKit
attribute [local irreducible] Go.Sh.T Go.Sh.RunT Go.Sh.RunD
theorem Try.own : ownKnob Try.prog.godebug = none := by kernel_rfl
theorem Try.laidOut : laidOutB Try.prog = true := by kernel_rfl
theorem many_pc (x : Int) : PC Try.prog false 5 [.v (.int .i64 x)] (.v (.bool (true))) := by
  obtain ⟨k, hk, k1, k2⟩ := um x 5 (by omega) (by omega)
  refine PC.of_T Try.func5 rfl rfl (n := 39) rfl rfl (.inr rfl) ?_
  intro base B w0
  refine T.seq ?_
  refine T.region ?_
  refine RunT.op0 rfl rfl rfl rfl .assign ?_
  refine RunT.nil ?_
  refine T.seq ?_
  refine T.region ?_
  refine RunT.op0 rfl rfl rfl rfl .move ?_
  refine RunT.op0 rfl rfl rfl rfl (.conv rfl (fun w => c_int w ⟨_, Try.underlying3⟩ Try.underlying31) rfl) ?_
  refine RunT.op0 rfl rfl rfl rfl (.bin rfl rfl (fun w => b_rem w (by decide)) rfl) ?_
  refine RunT.op0 rfl rfl rfl rfl (.conv rfl (fun w => c_int' ⟨_, Try.underlying31⟩ Try.underlying3 hk w) rfl) ?_
  refine RunT.op0 rfl rfl rfl rfl (.bin rfl rfl (fun w => b_add' w (w64 (by omega) (by omega))) rfl) ?_
  refine RunT.op0 rfl rfl rfl rfl .assign ?_
  refine RunT.nil ?_
  refine T.seq ?_
  refine T.region ?_
  refine RunT.op0 rfl rfl rfl rfl .assign ?_
  refine RunT.nil ?_
  refine T.seq ?_
  refine T.seq ?_
  refine T.region ?_
  refine RunT.op0 rfl rfl rfl rfl .assign ?_
  refine RunT.nil ?_
  refine T.block ?_
  refine T.sub (sub_nil (t := 4) (sz := 2) false rfl (by decide) rfl) ?_
  refine T.loopS (fun n s => ∃ i : Int, ∃ m : Nat, ∃ l : List Pty, n = (510 + k - i).toNat ∧ (m : Int) = i ∧ i ≤ 510 + k ∧ m = (l.map pS).length ∧ l = List.replicate m ⟨2, 0⟩ ∧ s = ⟨[(3, .v (.int .i64 (510 + k))), (4, .own 0 0 m), (5, .v (.int .i64 i))], [(0, some (.arr false 2 (l.map pS)))], 8, []⟩) (_) ⟨_, ⟨0, 0, [], rfl, rfl, by omega, rfl, rfl, rfl⟩, (sub_of (fun b => b) rfl (by repeat (first | exact trivial | exact ⟨rfl, rfl⟩ | refine ⟨?_, ?_⟩)) (by repeat (first | exact trivial | exact ⟨rfl, rfl, trivial⟩ | exact ⟨rfl, rfl, rfl⟩ | refine ⟨?_, ?_⟩)) (fun _ _ _ _ _ _ h => h))⟩ ?_
  rintro n s ⟨i, m, l, rfl, h0, h1, h2, h3, rfl⟩
  refine T.seq ?_
  refine T.seq ?_
  refine T.region ?_
  refine RunT.op0 rfl rfl rfl rfl .move ?_
  refine RunT.op0 rfl rfl rfl rfl .move ?_
  refine RunT.op0 rfl rfl rfl rfl (.bin rfl rfl (fun w => b_lss w) rfl) ?_
  refine RunT.nil ?_
  refine T.cond2 rfl (fun c14 => ?_) (fun c14 => ?_)
  · have c14p := c14; (try simp only [decide_eq_true_eq, decide_eq_false_iff_not, Bool.not_eq_true', Bool.not_eq_false', Bool.and_eq_true, Bool.or_eq_true] at c14p)
    refine T.skip ?_
    refine T.seq ?_
    refine T.block ?_
    refine T.region ?_
    refine RunT.op0 rfl rfl rfl rfl .move ?_
    refine RunT.op0 rfl rfl rfl rfl (.bu bu23 rfl) ?_
    refine RunT.op0 rfl rfl rfl rfl (.bslice (d := false) sl24 rfl rfl (by intro y hy; rcases List.mem_cons.1 hy with rfl | hy; exact ⟨rfl, rfl, fun _ => rfl⟩; exact (List.not_mem_nil hy).elim) (by decide)) ?_
    refine RunT.op0 rfl rfl rfl rfl (.appO (d := false) sl24 rfl rfl (by omega) (List.take_of_length_le (by omega)) rfl (.own Try.underlying24 rfl (Nat.le_refl _) (show _ = [_] from rfl) (fun h => by cases h)) rfl (by simp only [List.length_cons, List.length_nil]; omega)) ?_
    refine RunT.op0 rfl rfl rfl rfl .assign ?_
    refine RunT.nil ?_
    refine T.region ?_
    refine RunT.op0 rfl rfl rfl rfl .move ?_
    refine RunT.op0 rfl rfl rfl rfl (.bin rfl rfl (fun w => b_add' w (w64 (by omega) (by omega))) rfl) ?_
    refine RunT.op0 rfl rfl rfl rfl .assign ?_
    refine RunT.nil ?_
    refine ⟨(510 + k - (i + 1)).toNat, by omega, _, ⟨i + 1, m + 1, l ++ [⟨2, 0⟩], rfl, by omega, by omega, by simp; simpa using h2, by rw [h3, List.replicate_succ'], rfl⟩, ?_⟩
    exact sub_of (fun b => b + 16) rfl (by repeat (first | exact trivial | exact ⟨rfl, rfl⟩ | refine ⟨?_, ?_⟩)) ⟨⟨rfl, (by show _ = some (Blk.arr false 2 (List.map pS (l ++ [⟨2, 0⟩]))); rw [List.map_append]; rfl), trivial⟩, trivial⟩ (fun _ _ _ _ _ _ h => by omega)
  · have c14p := c14; (try simp only [decide_eq_true_eq, decide_eq_false_iff_not, Bool.not_eq_true', Bool.not_eq_false', Bool.and_eq_true, Bool.or_eq_true] at c14p)
    refine T.exit ?_
    refine T.seq ?_
    have hm : (m : Int) = 510 + k := by omega
    have hAll : allP l = decide (510 + k ≤ 512) := by { rw [h3]; unfold allP; rw [all_rep, List.length_replicate, Bool.and_true, decide_eq_decide]; omega }
    have hSum : sumP l = if 510 + k ≤ 512 then 2 * (510 + k) else 0 := by
      by_cases h : 510 + k ≤ 512
      · rw [if_pos h]; unfold sumP; rw [hAll, if_pos (by simp [h]), h3, sumS_rep, hm]
      · rw [if_neg h]; unfold sumP; rw [hAll, if_neg (by simp [h])]
    refine T.region ?_
    refine RunT.op0 rfl rfl rfl rfl .move ?_
    refine RunT.op0 rfl rfl rfl rfl (.bin rfl rfl (fun w => b_mul' w (w64 (by omega) (by omega))) rfl) ?_
    refine RunT.op0 rfl rfl rfl rfl .assign ?_
    refine RunT.nil ?_
    refine T.seq ?_
    refine T.seq ?_
    refine T.region ?_
    refine RunT.op0 rfl rfl rfl rfl .move ?_
    refine RunT.op0 rfl rfl rfl rfl (.bin rfl rfl (fun w => b_gtr w) rfl) ?_
    refine RunT.nil ?_
    refine T.cond2 rfl (fun c24 => ?_) (fun c24 => ?_)
    · have c24p := c24; (try simp only [decide_eq_true_eq, decide_eq_false_iff_not, Bool.not_eq_true', Bool.not_eq_false', Bool.and_eq_true, Bool.or_eq_true] at c24p)
      refine T.region ?_
      refine RunT.op0 rfl rfl rfl rfl .assign ?_
      refine RunT.nil ?_
      refine T.seq ?_
      refine T.region ?_
      refine RunT.call0 rfl rfl rfl rfl rfl rfl (told_pc) (by repeat (first | exact trivial | refine ⟨?_, ?_⟩ | exact .one .v | exact .one .lst | exact .one .rptr | exact .one (.all rfl rfl) | exact .one .nil | exact .agg' (by repeat (first | exact trivial | refine ⟨?_, ?_⟩ | exact .v | exact .lst | exact .rptr | exact .all rfl rfl | exact .nil | exact .clo' trivial)) | exact .one (.clo' (by repeat (first | exact trivial | refine ⟨?_, ?_⟩ | exact .v | exact .lst | exact .rptr | exact .all rfl rfl | exact .nil | exact .clo' trivial))) | exact .one (.ptr' rfl (by repeat (first | exact trivial | refine ⟨?_, ?_⟩ | exact .v | exact .lst | exact .rptr | exact .all rfl rfl | exact .nil | exact .clo' trivial))) | exact .one (.own' rfl (by first | omega | (simp; done) | (simp; omega)) (by first | rw [List.drop_zero, List.take_of_length_le (by omega)] | (simp; done) | (simp; omega))))) (Nat.le_of_ble_eq_true rfl) ?_
      refine RunT.op0 rfl rfl rfl rfl .move ?_
      refine RunT.opg rfl rfl rfl rfl rfl rfl .move ?_
      refine RunT.callg rfl rfl rfl rfl rfl rfl rfl rfl (all_pc l) (by repeat (first | exact trivial | refine ⟨?_, ?_⟩ | exact .one .v | exact .one .lst | exact .one .rptr | exact .one (.all rfl rfl) | exact .one .nil | exact .agg' (by repeat (first | exact trivial | refine ⟨?_, ?_⟩ | exact .v | exact .lst | exact .rptr | exact .all rfl rfl | exact .nil | exact .clo' trivial)) | exact .one (.clo' (by repeat (first | exact trivial | refine ⟨?_, ?_⟩ | exact .v | exact .lst | exact .rptr | exact .all rfl rfl | exact .nil | exact .clo' trivial))) | exact .one (.ptr' rfl (by repeat (first | exact trivial | refine ⟨?_, ?_⟩ | exact .v | exact .lst | exact .rptr | exact .all rfl rfl | exact .nil | exact .clo' trivial))) | exact .one (.own' rfl (by first | omega | (simp; done) | (simp; omega)) (by first | rw [List.drop_zero, List.take_of_length_le (by omega)] | (simp; done) | (simp; omega))))) (Nat.le_of_ble_eq_true rfl) ?_
      refine RunT.opg rfl rfl rfl rfl rfl rfl .move ?_
      refine RunT.opg rfl rfl rfl rfl rfl rfl (.bin rfl rfl (fun w => b_leq w) rfl) ?_
      refine RunT.opg rfl rfl rfl rfl rfl rfl (.bin rfl rfl (fun w => b_eqB w Try.underlying4) rfl) ?_
      refine RunT.op0 rfl rfl rfl rfl (.pick rfl) ?_
      refine RunT.op0 rfl rfl rfl rfl .move ?_
      refine RunT.cases (t := 33) rfl (fun g33 => ?_) (fun g33 => ?_)
      · have g33p := g33; (try simp only [decide_eq_true_eq, decide_eq_false_iff_not, Bool.not_eq_true', Bool.not_eq_false', Bool.and_eq_true, Bool.or_eq_true] at g33p)
        refine RunT.opg rfl rfl rfl (bo g33) rfl rfl .move ?_
        refine RunT.callg rfl rfl rfl (bo g33) rfl rfl rfl rfl (sum_pc l) (by repeat (first | exact trivial | refine ⟨?_, ?_⟩ | exact .one .v | exact .one .lst | exact .one .rptr | exact .one (.all rfl rfl) | exact .one .nil | exact .agg' (by repeat (first | exact trivial | refine ⟨?_, ?_⟩ | exact .v | exact .lst | exact .rptr | exact .all rfl rfl | exact .nil | exact .clo' trivial)) | exact .one (.clo' (by repeat (first | exact trivial | refine ⟨?_, ?_⟩ | exact .v | exact .lst | exact .rptr | exact .all rfl rfl | exact .nil | exact .clo' trivial))) | exact .one (.ptr' rfl (by repeat (first | exact trivial | refine ⟨?_, ?_⟩ | exact .v | exact .lst | exact .rptr | exact .all rfl rfl | exact .nil | exact .clo' trivial))) | exact .one (.own' rfl (by first | omega | (simp; done) | (simp; omega)) (by first | rw [List.drop_zero, List.take_of_length_le (by omega)] | (simp; done) | (simp; omega))))) (Nat.le_of_ble_eq_true rfl) ?_
        refine RunT.opg rfl rfl rfl (bo g33) rfl rfl .move ?_
        refine RunT.opg rfl rfl rfl (bo g33) rfl rfl (.bin rfl rfl (fun w => b_eql w) rfl) ?_
        refine RunT.op0 rfl rfl rfl rfl (.pick (bo g33)) ?_
        refine RunT.op0 rfl rfl rfl rfl .assign ?_
        refine RunT.nil ?_
        refine T.ret ?_
        exact RetOk.v rfl rfl (by rw [hSum]; split <;> simp <;> omega)
      · exact absurd g33 (by rw [hAll]; simp)
    · have c24p := c24; (try simp only [decide_eq_true_eq, decide_eq_false_iff_not, Bool.not_eq_true', Bool.not_eq_false', Bool.and_eq_true, Bool.or_eq_true] at c24p)
      refine T.skip ?_
      refine T.seq ?_
      refine T.region ?_
      refine RunT.call0 rfl rfl rfl rfl rfl rfl (told_pc) (by repeat (first | exact trivial | refine ⟨?_, ?_⟩ | exact .one .v | exact .one .lst | exact .one .rptr | exact .one (.all rfl rfl) | exact .one .nil | exact .agg' (by repeat (first | exact trivial | refine ⟨?_, ?_⟩ | exact .v | exact .lst | exact .rptr | exact .all rfl rfl | exact .nil | exact .clo' trivial)) | exact .one (.clo' (by repeat (first | exact trivial | refine ⟨?_, ?_⟩ | exact .v | exact .lst | exact .rptr | exact .all rfl rfl | exact .nil | exact .clo' trivial))) | exact .one (.ptr' rfl (by repeat (first | exact trivial | refine ⟨?_, ?_⟩ | exact .v | exact .lst | exact .rptr | exact .all rfl rfl | exact .nil | exact .clo' trivial))) | exact .one (.own' rfl (by first | omega | (simp; done) | (simp; omega)) (by first | rw [List.drop_zero, List.take_of_length_le (by omega)] | (simp; done) | (simp; omega))))) (Nat.le_of_ble_eq_true rfl) ?_
      refine RunT.op0 rfl rfl rfl rfl .move ?_
      refine RunT.opg rfl rfl rfl rfl rfl rfl .move ?_
      refine RunT.callg rfl rfl rfl rfl rfl rfl rfl rfl (all_pc l) (by repeat (first | exact trivial | refine ⟨?_, ?_⟩ | exact .one .v | exact .one .lst | exact .one .rptr | exact .one (.all rfl rfl) | exact .one .nil | exact .agg' (by repeat (first | exact trivial | refine ⟨?_, ?_⟩ | exact .v | exact .lst | exact .rptr | exact .all rfl rfl | exact .nil | exact .clo' trivial)) | exact .one (.clo' (by repeat (first | exact trivial | refine ⟨?_, ?_⟩ | exact .v | exact .lst | exact .rptr | exact .all rfl rfl | exact .nil | exact .clo' trivial))) | exact .one (.ptr' rfl (by repeat (first | exact trivial | refine ⟨?_, ?_⟩ | exact .v | exact .lst | exact .rptr | exact .all rfl rfl | exact .nil | exact .clo' trivial))) | exact .one (.own' rfl (by first | omega | (simp; done) | (simp; omega)) (by first | rw [List.drop_zero, List.take_of_length_le (by omega)] | (simp; done) | (simp; omega))))) (Nat.le_of_ble_eq_true rfl) ?_
      refine RunT.opg rfl rfl rfl rfl rfl rfl .move ?_
      refine RunT.opg rfl rfl rfl rfl rfl rfl (.bin rfl rfl (fun w => b_leq w) rfl) ?_
      refine RunT.opg rfl rfl rfl rfl rfl rfl (.bin rfl rfl (fun w => b_eqB w Try.underlying4) rfl) ?_
      refine RunT.op0 rfl rfl rfl rfl (.pick rfl) ?_
      refine RunT.op0 rfl rfl rfl rfl .move ?_
      refine RunT.cases (t := 33) rfl (fun g33 => ?_) (fun g33 => ?_)
      · have g33p := g33; (try simp only [decide_eq_true_eq, decide_eq_false_iff_not, Bool.not_eq_true', Bool.not_eq_false', Bool.and_eq_true, Bool.or_eq_true] at g33p)
        refine RunT.opg rfl rfl rfl (bo g33) rfl rfl .move ?_
        refine RunT.callg rfl rfl rfl (bo g33) rfl rfl rfl rfl (sum_pc l) (by repeat (first | exact trivial | refine ⟨?_, ?_⟩ | exact .one .v | exact .one .lst | exact .one .rptr | exact .one (.all rfl rfl) | exact .one .nil | exact .agg' (by repeat (first | exact trivial | refine ⟨?_, ?_⟩ | exact .v | exact .lst | exact .rptr | exact .all rfl rfl | exact .nil | exact .clo' trivial)) | exact .one (.clo' (by repeat (first | exact trivial | refine ⟨?_, ?_⟩ | exact .v | exact .lst | exact .rptr | exact .all rfl rfl | exact .nil | exact .clo' trivial))) | exact .one (.ptr' rfl (by repeat (first | exact trivial | refine ⟨?_, ?_⟩ | exact .v | exact .lst | exact .rptr | exact .all rfl rfl | exact .nil | exact .clo' trivial))) | exact .one (.own' rfl (by first | omega | (simp; done) | (simp; omega)) (by first | rw [List.drop_zero, List.take_of_length_le (by omega)] | (simp; done) | (simp; omega))))) (Nat.le_of_ble_eq_true rfl) ?_
        refine RunT.opg rfl rfl rfl (bo g33) rfl rfl .move ?_
        refine RunT.opg rfl rfl rfl (bo g33) rfl rfl (.bin rfl rfl (fun w => b_eql w) rfl) ?_
        refine RunT.op0 rfl rfl rfl rfl (.pick (bo g33)) ?_
        refine RunT.op0 rfl rfl rfl rfl .assign ?_
        refine RunT.nil ?_
        refine T.ret ?_
        exact RetOk.v rfl rfl (by rw [hSum]; split <;> simp <;> omega)
      · exact absurd g33 (by rw [hAll]; simp)

set_option maxRecDepth 100000 in
theorem partyMany_lifted (os : Os) (started : os.Started) (H : Type) (enc : TypeId × Value → H) :
    ReturnsInHanded {} Try.checked os 5 .any (Rows.partyManySpec.pre6 enc Try.prog Try.f5 Rows.partyManyRow.domain false) (Rows.partyManySpec.post enc Try.prog Try.f5 false true false false) := by
  refine returnsInHanded_of_change (C := Try.checked) Try.own started (by kernel_rfl) Try.func5 (ChangeSpec.witness6 (enc := enc) (C := Try.checked) false ⟨#[], #[.int .i64 0], []⟩ 8 (by kernel_rfl) (by kernel_rfl) (by kernel_rfl) (by kernel_rfl)) ?_
  intro W base args ds gs before hval0 hW hcnd _
  have hval : ∀ (j : Nat) t v, Try.f5.params[j]? = some t → args[j]? = some v → Value.okWide Try.prog W .any base t v := hval0
  have hW' := hW
  obtain ⟨p, q, hA0, hV, hpq, hfz, hnd⟩ := hW
  have hA : DataW.TrodAll enc Try.prog W 0 (fun _ => true) true Try.f5.params.toList args.toList ds p := hA0
  rw [Try.params5] at hA hval
  obtain ⟨v0, vs0, d0, ds0, p0, q0, hargs, rfl, rfl, h0, r0⟩ := trodAll_cons hA
  obtain ⟨rfl, rfl, rfl⟩ := trodAll_nil r0
  obtain rfl : args = #[v0] := by cases args; simp_all
  obtain ⟨rfl, rfl⟩ := trodVars_none hV
  obtain ⟨a0, k0, x0⟩ := (o3).one Try.underlying3 rfl (fun n => .v (.int .i64 n)) (fun _ => rfl) (hval 0 3 v0 rfl rfl) h0
  exact PC.row Try.laidOut (many_pc a0) rfl (vrs_arr (vrs_cons x0 (vrs_nil))) hW' rfl rfl (by kernel_rfl) rfl Try.underlying4
theorem PartyMany_holds : Rows.PartyManySaid :=
  OpenClaim.holds_of_wide 5 Try.f5 rfl rfl rfl rfl rfl rfl rfl ⟨rfl, rfl, rfl, rfl, rfl⟩ rfl rfl rfl rfl rfl (by kernel_rfl) Try.func5 (by kernel_rfl)
    (of_decide_eq_true (by kernel_rfl)) (by unfold Func.isWrapper; first | (rw [if_pos (by decide +kernel)]; kernel_rfl) | (rw [if_neg (by decide +kernel)]; exact ⟨rfl, rfl⟩))
    (fun os started H enc _ => partyMany_lifted os started H enc)
end Go.Proofs.Ytijfhnpmdhonhaa
