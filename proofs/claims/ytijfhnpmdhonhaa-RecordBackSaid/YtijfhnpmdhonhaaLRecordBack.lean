/- RecordBack: the law RecordBack of the given program returns true at every input, and the input reads as before. No condition. -/
import Derived.Test.YtijfhnpmdhonhaaYRecordBack1
import Derived.Test.YtijfhnpmdhonhaaRows
import Derived.ProofKit
import Derived.Test.YtijfhnpmdhonhaaPTreeMath
import Derived.Test.YtijfhnpmdhonhaaPTree
import Derived.Test.YtijfhnpmdhonhaaPBase
import Derived.Test.YtijfhnpmdhonhaaPRecord
import Derived.Test.YtijfhnpmdhonhaaPRecordGet
import Derived.Test.YtijfhnpmdhonhaaPRecordGet2
import Derived.Test.YtijfhnpmdhonhaaPRecordAsks
import Derived.Test.YtijfhnpmdhonhaaPRecordBack
set_option linter.unusedVariables false
set_option linter.unusedSimpArgs false
set_option maxRecDepth 100000
namespace Go.Proofs.Ytijfhnpmdhonhaa
open Go Go.Sh Go.Px Go.ChangeShapes Go.WideShapes Go.ChangeAt Go.RowKit
attribute [local irreducible] Go.Sh.T Go.Sh.RunT Go.Sh.RunD
theorem Try.own : ownKnob Try.prog.godebug = none := by kernel_rfl
theorem Try.laidOut : laidOutB Try.prog = true := by kernel_rfl
theorem op3 : Opens Try.prog 3 1 (fun n : Int => [SV.v (.int .i64 n)]) okI := (opens_int Try.underlying3 (by kernel_rfl)).map (fun x => x) (fun _ => rfl) (fun _ h => lit_i64 h) (fun _ => rfl)
theorem op9 : Opens Try.prog 9 1 (fun s : ByteArray => [SV.v (.string s)]) okS := opens_string Try.underlying9 (by kernel_rfl)
theorem op23 : Opens Try.prog 23 2 (fun x : Party => [.v (.int .i64 x.Size), .v (.int .i64 x.Wheels)]) okParty := (Opens.struct Try.underlying23 (by kernel_rfl) (OpensL.cons rfl op3 (OpensL.cons rfl op3 (OpensL.nil)))).map (fun x => ⟨x.1, x.2.1⟩) (fun _ => rfl) (fun _ h => ⟨h.1, h.2.1⟩) (fun _ => rfl)
theorem op2 : Opens Try.prog 2 1 (fun n : Int => [SV.v (.int .i64 n)]) okI := (opens_int Try.underlying2 (by kernel_rfl)).map (fun x => x) (fun _ => rfl) (fun _ h => lit_i64 h) (fun _ => rfl)
theorem op49 : Opens Try.prog 49 6 (fun x : Order => [.v (.int .i64 x.Id), .v (.int .i64 x.State), .v (.int .i64 x.Party.Size), .v (.int .i64 x.Party.Wheels), .v (.int .i64 x.Until), .v (.int .i64 x.First)]) okOrder := (Opens.struct Try.underlying49 (by kernel_rfl) (OpensL.cons rfl op3 (OpensL.cons rfl op3 (OpensL.cons rfl op23 (OpensL.cons rfl op2 (OpensL.cons rfl op3 (OpensL.nil))))))).map (fun x => ⟨x.1, x.2.1, x.2.2.1, x.2.2.2.1, x.2.2.2.2.1⟩) (fun _ => rfl) (fun _ h => ⟨h.1, h.2.1, h.2.2.1, h.2.2.2.1, h.2.2.2.2.1⟩) (fun _ => rfl)
theorem op51 : Opens Try.prog 51 9 (fun x : Record => [.v (.int .i64 x.Kind), .v (.string x.Text), .v (.int .i64 x.Order.Id), .v (.int .i64 x.Order.State), .v (.int .i64 x.Order.Party.Size), .v (.int .i64 x.Order.Party.Wheels), .v (.int .i64 x.Order.Until), .v (.int .i64 x.Order.First), .v (.int .i64 x.Time)]) okRecord := (Opens.struct Try.underlying51 (by kernel_rfl) (OpensL.cons rfl op3 (OpensL.cons rfl op9 (OpensL.cons rfl op49 (OpensL.cons rfl op2 (OpensL.nil)))))).map (fun x => ⟨x.1, x.2.1, x.2.2.1, x.2.2.2.1⟩) (fun _ => rfl) (fun _ h => ⟨h.1, h.2.1, h.2.2.1, h.2.2.2.1⟩) (fun _ => rfl)
theorem op5 : Opens Try.prog 5 1 (fun n : Int => [SV.v (.int .u8 n)]) okU8 := (opens_int Try.underlying5 (by kernel_rfl)).map (fun x => x) (fun _ => rfl) (fun _ h => lit_u8 h) (fun _ => rfl)
theorem RecordBack_ok (a0 : Record) (h0 : okRecord a0) (a1 : Int) (h1 : okI a1) (a2 : Int) (h2 : okU8 a2) : PC Try.prog false 11 [.agg [.v (.int .i64 a0.Kind), .v (.string a0.Text), .v (.int .i64 a0.Order.Id), .v (.int .i64 a0.Order.State), .v (.int .i64 a0.Order.Party.Size), .v (.int .i64 a0.Order.Party.Wheels), .v (.int .i64 a0.Order.Until), .v (.int .i64 a0.Order.First), .v (.int .i64 a0.Time)], .v (.int .i64 a1), .v (.int .u8 a2)] (.v (.bool true)) := by
  obtain ⟨k, H⟩ := Go.Px.RecordBack_true a0 h0 a1 h1 a2 h2
  exact law22_RecordBack_pc false k a0 a1 a2 true H
set_option maxRecDepth 100000 in
theorem recordBack_lifted (os : Os) (started : os.Started) (H : Type) (enc : TypeId × Value → H) :
    ReturnsInHanded {} Try.checked os 11 .any (Rows.recordBackSpec.pre6 enc Try.prog Try.f11 Rows.recordBackRow.domain false) (Rows.recordBackSpec.post enc Try.prog Try.f11 false true false false) := by
  refine returnsInHanded_of_change (C := Try.checked) Try.own started (by kernel_rfl) Try.func11 (ChangeSpec.witness6 (enc := enc) (C := Try.checked) false ⟨#[], #[.agg #[.int .i64 0, .string ⟨#[]⟩, .int .i64 0, .int .i64 0, .int .i64 0, .int .i64 0, .int .i64 0, .int .i64 0, .int .i64 0], .int .i64 0, .int .u8 0], []⟩ 8 (by kernel_rfl) (by kernel_rfl) (by kernel_rfl) (by kernel_rfl)) ?_
  intro W base args ds gs before hval0 hW hcnd _
  have hval : ∀ (j : Nat) t v, Try.f11.params[j]? = some t → args[j]? = some v → Value.okWide Try.prog W .any base t v := hval0
  have hW' := hW
  obtain ⟨p, q, hA0, hV, hpq, hfz, hnd⟩ := hW
  have hA : DataW.TrodAll enc Try.prog W 0 (fun _ => true) true Try.f11.params.toList args.toList ds p := hA0
  rw [Try.params11] at hA hval
  obtain ⟨v0, vs0, d0, ds0, p0, q0, hargs, rfl, rfl, h0, r0⟩ := trodAll_cons hA
  obtain ⟨v1, vs1, d1, ds1, p1, q1, rfl, rfl, rfl, h1, r1⟩ := trodAll_cons r0
  obtain ⟨v2, vs2, d2, ds2, p2, q2, rfl, rfl, rfl, h2, r2⟩ := trodAll_cons r1
  obtain ⟨rfl, rfl, rfl⟩ := trodAll_nil r2
  obtain rfl : args = #[v0, v1, v2] := by cases args; simp_all
  obtain ⟨rfl, rfl⟩ := trodVars_none hV
  obtain ⟨a0, k0, x0⟩ := (op51).agg Try.underlying51 rfl (hval 0 51 v0 rfl rfl) h0
  obtain ⟨a1, k1, x1⟩ := (op3).one Try.underlying3 rfl (fun n => .v (.int .i64 n)) (fun _ => rfl) (hval 1 3 v1 rfl rfl) h1
  obtain ⟨a2, k2, x2⟩ := (op5).one Try.underlying5 rfl (fun n => .v (.int .u8 n)) (fun _ => rfl) (hval 2 5 v2 rfl rfl) h2
  exact PC.row Try.laidOut (RecordBack_ok a0 k0 a1 k1 a2 k2) rfl (vrs_arr (vrs_cons x0 (vrs_cons x1 (vrs_cons x2 (vrs_nil))))) hW' rfl rfl (by kernel_rfl) rfl Try.underlying4
theorem RecordBack_holds : Rows.RecordBackSaid :=
  OpenClaim.holds_of_wide 11 Try.f11 rfl rfl rfl rfl rfl rfl rfl ⟨rfl, rfl, rfl, rfl, rfl⟩ rfl rfl rfl rfl rfl (by kernel_rfl) Try.func11 (by kernel_rfl)
    (of_decide_eq_true (by kernel_rfl)) (by unfold Func.isWrapper; first | (rw [if_pos (by decide +kernel)]; kernel_rfl) | (rw [if_neg (by decide +kernel)]; exact ⟨rfl, rfl⟩))
    (fun os started H enc _ => recordBack_lifted os started H enc)
end Go.Proofs.Ytijfhnpmdhonhaa
