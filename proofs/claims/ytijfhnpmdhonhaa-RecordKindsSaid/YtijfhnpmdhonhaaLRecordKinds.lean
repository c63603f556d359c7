/- RecordKinds: the law RecordKinds of the given program returns true at every input, and the input reads as before. No condition. -/
import Derived.Test.YtijfhnpmdhonhaaYRecordKinds1
import Derived.Test.YtijfhnpmdhonhaaRows
import Derived.ProofKit
import Derived.Test.YtijfhnpmdhonhaaPTreeMath
import Derived.Test.YtijfhnpmdhonhaaPTree
import Derived.Test.YtijfhnpmdhonhaaPBase
import Derived.Test.YtijfhnpmdhonhaaPRecord
import Derived.Test.YtijfhnpmdhonhaaPRecordGet
import Derived.Test.YtijfhnpmdhonhaaPRecordGet2
import Derived.Test.YtijfhnpmdhonhaaPRecordAsks
import Derived.Test.YtijfhnpmdhonhaaPRecordKinds
set_option linter.unusedVariables false
set_option linter.unusedSimpArgs false
set_option maxRecDepth 100000
namespace Go.Proofs.Ytijfhnpmdhonhaa
open Go Go.Sh Go.Px Go.ChangeShapes Go.WideShapes Go.ChangeAt Go.RowKit
attribute [local irreducible] Go.Sh.T Go.Sh.RunT Go.Sh.RunD
theorem Try.own : ownKnob Try.prog.godebug = none := by kernel_rfl
theorem Try.laidOut : laidOutB Try.prog = true := by kernel_rfl
theorem op3 : Opens Try.prog 3 1 (fun n : Int => [SV.v (.int .i64 n)]) okI := (opens_int Try.underlying3 (by kernel_rfl)).map (fun x => x) (fun _ => rfl) (fun _ h => lit_i64 h) (fun _ => rfl)
theorem op9 : Opens Try.prog 9 1 (fun s : ByteArray => [SV.v (.string s)]) okS := opens_string Try.underlying9 (by kernel_rfl)
theorem op23 : Opens Try.prog 23 2 (fun x : Party => [.v (.int .i64 x.Size), .v (.int .i64 x.Wheels)]) okParty := (Opens.struct Try.underlying23 (by kernel_rfl) (OpensL.cons rfl op3 (OpensL.cons rfl op3 (OpensL.nil)))).map (fun x => ⟨x.1, x.2.1⟩) (fun _ => rfl) (fun _ h => ⟨h.1, h.2.1⟩) (fun _ => rfl)
theorem op2 : Opens Try.prog 2 1 (fun n : Int => [SV.v (.int .i64 n)]) okI := (opens_int Try.underlying2 (by kernel_rfl)).map (fun x => x) (fun _ => rfl) (fun _ h => lit_i64 h) (fun _ => rfl)
theorem op49 : Opens Try.prog 49 6 (fun x : Order => [.v (.int .i64 x.Id), .v (.int .i64 x.State), .v (.int .i64 x.Party.Size), .v (.int .i64 x.Party.Wheels), .v (.int .i64 x.Until), .v (.int .i64 x.First)]) okOrder := (Opens.struct Try.underlying49 (by kernel_rfl) (OpensL.cons rfl op3 (OpensL.cons rfl op3 (OpensL.cons rfl op23 (OpensL.cons rfl op2 (OpensL.cons rfl op3 (OpensL.nil))))))).map (fun x => ⟨x.1, x.2.1, x.2.2.1, x.2.2.2.1, x.2.2.2.2.1⟩) (fun _ => rfl) (fun _ h => ⟨h.1, h.2.1, h.2.2.1, h.2.2.2.1, h.2.2.2.2.1⟩) (fun _ => rfl)
theorem op51 : Opens Try.prog 51 9 (fun x : Record => [.v (.int .i64 x.Kind), .v (.string x.Text), .v (.int .i64 x.Order.Id), .v (.int .i64 x.Order.State), .v (.int .i64 x.Order.Party.Size), .v (.int .i64 x.Order.Party.Wheels), .v (.int .i64 x.Order.Until), .v (.int .i64 x.Order.First), .v (.int .i64 x.Time)]) okRecord := (Opens.struct Try.underlying51 (by kernel_rfl) (OpensL.cons rfl op3 (OpensL.cons rfl op9 (OpensL.cons rfl op49 (OpensL.cons rfl op2 (OpensL.nil)))))).map (fun x => ⟨x.1, x.2.1, x.2.2.1, x.2.2.2.1⟩) (fun _ => rfl) (fun _ h => ⟨h.1, h.2.1, h.2.2.1, h.2.2.2.1⟩) (fun _ => rfl)
theorem RecordKinds_ok (a0 : Record) (h0 : okRecord a0) (a1 : Record) (h1 : okRecord a1) : PC Try.prog false 13 [.agg [.v (.int .i64 a0.Kind), .v (.string a0.Text), .v (.int .i64 a0.Order.Id), .v (.int .i64 a0.Order.State), .v (.int .i64 a0.Order.Party.Size), .v (.int .i64 a0.Order.Party.Wheels), .v (.int .i64 a0.Order.Until), .v (.int .i64 a0.Order.First), .v (.int .i64 a0.Time)], .agg [.v (.int .i64 a1.Kind), .v (.string a1.Text), .v (.int .i64 a1.Order.Id), .v (.int .i64 a1.Order.State), .v (.int .i64 a1.Order.Party.Size), .v (.int .i64 a1.Order.Party.Wheels), .v (.int .i64 a1.Order.Until), .v (.int .i64 a1.Order.First), .v (.int .i64 a1.Time)]] (.v (.bool true)) := by
  obtain ⟨k, H⟩ := Go.Px.RecordKinds_true a0 h0 a1 h1
  exact law22_RecordKinds_pc false k a0 a1 true H
set_option maxRecDepth 100000 in
theorem recordKinds_lifted (os : Os) (started : os.Started) (H : Type) (enc : TypeId × Value → H) :
    ReturnsInHanded {} Try.checked os 13 .any (Rows.recordKindsSpec.pre6 enc Try.prog Try.f13 Rows.recordKindsRow.domain false) (Rows.recordKindsSpec.post enc Try.prog Try.f13 false true false false) := by
  refine returnsInHanded_of_change (C := Try.checked) Try.own started (by kernel_rfl) Try.func13 (ChangeSpec.witness6 (enc := enc) (C := Try.checked) false ⟨#[], #[.agg #[.int .i64 0, .string ⟨#[]⟩, .int .i64 0, .int .i64 0, .int .i64 0, .int .i64 0, .int .i64 0, .int .i64 0, .int .i64 0], .agg #[.int .i64 0, .string ⟨#[]⟩, .int .i64 0, .int .i64 0, .int .i64 0, .int .i64 0, .int .i64 0, .int .i64 0, .int .i64 0]], []⟩ 8 (by kernel_rfl) (by kernel_rfl) (by kernel_rfl) (by kernel_rfl)) ?_
  intro W base args ds gs before hval0 hW hcnd _
  have hval : ∀ (j : Nat) t v, Try.f13.params[j]? = some t → args[j]? = some v → Value.okWide Try.prog W .any base t v := hval0
  have hW' := hW
  obtain ⟨p, q, hA0, hV, hpq, hfz, hnd⟩ := hW
  have hA : DataW.TrodAll enc Try.prog W 0 (fun _ => true) true Try.f13.params.toList args.toList ds p := hA0
  rw [Try.params13] at hA hval
  obtain ⟨v0, vs0, d0, ds0, p0, q0, hargs, rfl, rfl, h0, r0⟩ := trodAll_cons hA
  obtain ⟨v1, vs1, d1, ds1, p1, q1, rfl, rfl, rfl, h1, r1⟩ := trodAll_cons r0
  obtain ⟨rfl, rfl, rfl⟩ := trodAll_nil r1
  obtain rfl : args = #[v0, v1] := by cases args; simp_all
  obtain ⟨rfl, rfl⟩ := trodVars_none hV
  obtain ⟨a0, k0, x0⟩ := (op51).agg Try.underlying51 rfl (hval 0 51 v0 rfl rfl) h0
  obtain ⟨a1, k1, x1⟩ := (op51).agg Try.underlying51 rfl (hval 1 51 v1 rfl rfl) h1
  exact PC.row Try.laidOut (RecordKinds_ok a0 k0 a1 k1) rfl (vrs_arr (vrs_cons x0 (vrs_cons x1 (vrs_nil)))) hW' rfl rfl (by kernel_rfl) rfl Try.underlying4
theorem RecordKinds_holds : Rows.RecordKindsSaid :=
  OpenClaim.holds_of_wide 13 Try.f13 rfl rfl rfl rfl rfl rfl rfl ⟨rfl, rfl, rfl, rfl, rfl⟩ rfl rfl rfl rfl rfl (by kernel_rfl) Try.func13 (by kernel_rfl)
    (of_decide_eq_true (by kernel_rfl)) (by unfold Func.isWrapper; first | (rw [if_pos (by decide +kernel)]; kernel_rfl) | (rw [if_neg (by decide +kernel)]; exact ⟨rfl, rfl⟩))
    (fun os started H enc _ => recordKinds_lifted os started H enc)
end Go.Proofs.Ytijfhnpmdhonhaa
